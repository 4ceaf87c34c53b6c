/-
  The statement ClockDue is proved: for every input the call returns true, and each argument reads as before. No condition.
  The statement ClockDue: its walk.
-/
import Derived.Test.YtagclnmchkgpdaaGrp19
import Derived.Test.YtagclnmchkgpdaaGrp02
import Derived.Test.YtagclnmchkgpdaaRows
set_option linter.unusedVariables false
set_option linter.unusedSimpArgs false
namespace Go.Proofs.Ytagclnmchkgpdaa
open Go.RowKit
theorem ong_prefix (s : Sta) (k : Nat) : ∀ n, k ≤ n → ∃ r, ongL s n = ongL s k ++ r
  | 0, h => by obtain rfl : k = 0 := by omega
               exact ⟨[], rfl⟩
  | n + 1, h => by
    by_cases e : k = n + 1
    · exact ⟨[], by rw [e, List.append_nil]⟩
    · obtain ⟨r, hr⟩ := ong_prefix s k n (by omega)
      exact ⟨r ++ (if ((s.tid n).st == 2) = true then [n] else []), by rw [ongL_succ, hr, List.append_assoc]⟩
theorem ong_at (s : Sta) {k : Nat} (hk : k < 3) (h2 : (s.tid k).st = 2) : (ongL s 3)[(ongL s k).length]? = some k ∧ (ongL s k).length < (ongL s 3).length ∧ (ongL s (k + 1)).length = (ongL s k).length + 1 := by
  obtain ⟨r, hr⟩ := ong_prefix s (k + 1) 3 (by omega)
  have e : ongL s (k + 1) = ongL s k ++ [k] := by rw [ongL_succ, h2]; rfl
  refine ⟨?_, ?_, by rw [e]; simp⟩
  · rw [hr, e, List.append_assoc, List.getElem?_append_right (Nat.le_refl _)]
    simp
  · rw [hr, e]; simp
theorem left_step {s : Sta} (h : mayS s = true) (n : Nat) {k : Nat} (hk : k < 3) :
    ((s.tid k).st = 2 → 0 ≤ leftS (nowS s n) k ∧ leftS (nowS s n) k ≤ 20 ∧ leftS (nowS s (n + 1)) k = max 0 (leftS (nowS s n) k - 1)) ∧ ((s.tid k).st ≠ 2 → leftS (nowS s n) k = -1 ∧ leftS (nowS s (n + 1)) k = -1) := by
  rw [now_left h n hk, now_left h (n + 1) hk]
  refine ⟨fun h2 => ?_, fun h2 => by rw [if_neg h2, if_neg h2]; exact ⟨rfl, rfl⟩⟩
  rw [if_pos h2, if_pos h2]
  have := may_tmag (mayS_tid h hk) h2
  omega
section
attribute [-go_sem] loadCells storeVar
set_option maxRecDepth 100000 in
set_option maxHeartbeats 8000000 in
theorem cdue_big (s : Sta) (a : Sad) (w : World) (hbig : bigS s = true) :
    Calls Try.prog 4 #[.agg (stX s a)] w fun e w' => e = .returned (.bool true) ∧ Below w.heap.size w w' := by
  have HB := Lib.hid (bal (Below.refl w.heap.size w) (.cells (stX s a) 31))
  have L0 := st_load (Blk.new w 31 (stX s a))
  have GR := Lib.hid (fun W => great_any s a W)
  rw [hbig] at GR
  clear hbig
  go_enter Try.func4, Try.ntmps4
  go_wp2_with fail
  refine (GR.out _).mono ?_
  rintro e w1 ⟨rfl, b1⟩
  have B1 := Lib.hid (btrans HB.out b1)
  clear b1 L0
  go_wp2_with fail
  refine (wakes21 _).mono ?_
  rintro e w9 ⟨rfl, b9⟩
  go_wp2_with fail
  go_ret
  exact ⟨rfl, btrans B1.out b9⟩
set_option maxRecDepth 100000 in
set_option maxHeartbeats 8000000 in
theorem cdue_not (s : Sta) (a : Sad) (w : World) (h : StR w w.heap.size s a) (hb : StB s) (hbig : bigS s = false) (hm : mayS s = false) :
    Calls Try.prog 4 #[.agg (stX s a)] w fun e w' => e = .returned (.bool true) ∧ Below w.heap.size w w' := by
  have HB := Lib.hid (bal (Below.refl w.heap.size w) (.cells (stX s a) 31))
  have K0 := Lib.hid (Blk.new w 31 (stX s a))
  have L0 := st_load (Blk.new w 31 (stX s a))
  have GR := Lib.hid (fun W => great_any s a W)
  have MY := Lib.hid (fun W (hW : Below w.heap.size w W) => rMayS_any s a w.heap.size W (h.below hW) hW.size hb)
  rw [hbig] at GR
  rw [hm] at MY
  clear hbig hm h hb
  go_enter Try.func4, Try.ntmps4
  go_wp2_with fail
  refine (GR.out _).mono ?_
  rintro e w1 ⟨rfl, b1⟩
  have B1 := Lib.hid (btrans HB.out b1)
  have L1 := st_load (K0.out.below b1 (by simp))
  clear b1 L0
  go_wp2_with fail
  refine (MY.out _ B1.out).mono ?_
  rintro e w2 ⟨rfl, b2⟩
  have B2 := Lib.hid (btrans B1.out b2)
  clear b2 L1
  go_wp2_with fail
  refine (wakes21 _).mono ?_
  rintro e w9 ⟨rfl, b9⟩
  go_wp2_with fail
  go_ret
  exact ⟨rfl, btrans B2.out b9⟩
set_option maxRecDepth 100000 in
set_option maxHeartbeats 16000000 in
theorem cdue_yes (s : Sta) (a : Sad) (w : World) (h : StR w w.heap.size s a) (hb : StB s) (hbig : bigS s = false) (hm : mayS s = true) :
    Calls Try.prog 4 #[.agg (stX s a)] w fun e w' => e = .returned (.bool true) ∧ Below w.heap.size w w' := by
  have HSB := Lib.hid hb

  have HB := Lib.hid (bal (Below.refl w.heap.size w) (.cells (stX s a) 31))
  have K0 := Lib.hid (Blk.new w 31 (stX s a))
  have L0 := st_load (Blk.new w 31 (stX s a))
  have GR := Lib.hid (fun W => great_any s a W)
  have MY := Lib.hid (fun W (hW : Below w.heap.size w W) => rMayS_any s a w.heap.size W (h.below hW) hW.size hb)
  have H := Lib.hid h
  have HM := Lib.hid hm
  rw [hbig] at GR
  rw [hm] at MY
  clear hbig hm h hb
  go_enter Try.func4, Try.ntmps4
  go_wp2_with fail
  refine (GR.out _).mono ?_
  rintro e w1 ⟨rfl, b1⟩
  have B1 := Lib.hid (btrans HB.out b1)
  have k1 := K0.out.below b1 (by simp)
  have K1 := Lib.hid k1
  have L1 := st_load k1
  clear b1 L0 k1
  go_wp2_with fail
  refine (MY.out _ B1.out).mono ?_
  rintro e w2 ⟨rfl, b2⟩
  have B2 := Lib.hid (btrans B1.out b2)
  have K2 := Lib.hid (K1.out.below b2 K1.out.lt)
  have L2 := st_load K2.out
  clear b2 L1

  obtain ⟨W4, st4, k4, b4, s4⟩ := bk_fresh (P := Try.prog) w2 31 #[.int .i64 0, .int .i8 0, .int .i64 0, .int .i64 0, .int .i64 0, .int .i64 0, .slice none 0 0, .slice none 0 0, .int .i64 0, .int .i8 0, .int .i64 0, .int .i64 0, .int .i64 0, .int .i64 0, .slice none 0 0, .slice none 0 0, .int .i64 0, .int .i8 0, .int .i64 0, .int .i64 0, .int .i64 0, .int .i64 0, .slice none 0 0, .slice none 0 0, .int .i64 0, .int .i64 0, .int .i64 0, .int .i64 0, .int .i64 0, .int .i64 0, .int .i64 0] (stX s a) 31 infoSta rfl rfl (stX_one _ _)
  have K4 := Lib.hid k4
  have B24 := Lib.hid b4
  have B4 := Lib.hid (B2.out.trans (b4.mono B2.out.size))
  have KS := Lib.hid (K2.out.below b4 K2.out.lt)
  have H4 := Lib.hid ((H.out.up B2.out).up b4)
  clear k4 b4 s4
  go_wp2_with fail
  clear st4 L2
  go_loopg [4] 20 (fun mm yK wq => ∃ (n : Nat) (c : Sad), n ≤ 20 ∧ yK = .int .i64 n ∧ mm = 20 - n ∧ Blk wq w2.heap.size 31 (stX (nowS s n) c) ∧ StR wq wq.heap.size (nowS s n) c ∧ (∀ j, j < 3 → AwayB w2.heap.size ((nowS s n).tid j).ps.length (c.A j) ∧ AwayB w2.heap.size ((nowS s n).tid j).qs.length (c.D j)) ∧ Below w2.heap.size w2 wq)
  case atStart =>
    refine ⟨0, a, Nat.zero_le _, rfl, rfl, by rw [now_zero HM.out]; exact K4.out, by rw [now_zero HM.out]; exact H4.out, fun j hj => ?_, B24.out⟩
    rw [now_zero HM.out]
    have h2 := (H.out.up B2.out) j hj
    exact ⟨h2.1.awayB (Nat.le_refl _), h2.2.1.awayB (Nat.le_refl _)⟩
  case round =>
    obtain ⟨n, c, hn, rfl, hmm, hkb, hr, haw, hbw⟩ := hrel
    have HMM := Lib.hid hmm
    have KN := Lib.hid hkb
    have RN := Lib.hid hr
    have BW' := Lib.hid hbw
    clear hmm hkb hr haw hbw
    by_cases hlt : n < 20
    · have d3 : decide ((n : Int) < 20) = true := decide_eq_true (by omega)
      have L5 := st_load KN.out
      have TK := Lib.hid (show Calls Try.prog 13 #[.agg (stX (nowS s n) c)] wr (StNew (nowS s (n + 1)) wr) from by
        rw [← now_succ HM.out n]
        have := cT_yes (nowS s n) c wr RN.out (now_may HM.out n)
        unfold tickS
        rw [if_pos (now_may HM.out n)]
        exact this)
      have w1' : IntKind.i64.wrap ((n : Int) + 1) = (n : Int) + 1 := IntWalk.i64_in _ (by omega)
      go_wp2_with fail
      refine TK.out.mono ?_
      rintro e w5 ⟨d, rfl, r5, b5, nw⟩
      obtain ⟨W6, st6, k6, b6, s6⟩ := bk_fresh (P := Try.prog) w5 31 #[.int .i64 0, .int .i8 0, .int .i64 0, .int .i64 0, .int .i64 0, .int .i64 0, .slice none 0 0, .slice none 0 0, .int .i64 0, .int .i8 0, .int .i64 0, .int .i64 0, .int .i64 0, .int .i64 0, .slice none 0 0, .slice none 0 0, .int .i64 0, .int .i8 0, .int .i64 0, .int .i64 0, .int .i64 0, .int .i64 0, .slice none 0 0, .slice none 0 0, .int .i64 0, .int .i64 0, .int .i64 0, .int .i64 0, .int .i64 0, .int .i64 0, .int .i64 0] (stX (nowS s (n + 1)) d) 31 infoSta rfl rfl (stX_one _ _)
      have L6 := st_load k6
      have hlo := KN.out.lt
      have K6 := Lib.hid k6
      have B6 := Lib.hid (b5.trans (b6.mono b5.size))
      have R6 := Lib.hid (r5.up b6)
      have AW6 := Lib.hid (show ∀ j, j < 3 → AwayB w2.heap.size ((nowS s (n + 1)).tid j).ps.length (d.A j) ∧ AwayB w2.heap.size ((nowS s (n + 1)).tid j).qs.length (d.D j) from fun j hj => ⟨(nw j hj).1.awayB hlo, (nw j hj).2.awayB hlo⟩)
      have HLO := Lib.hid (show w2.heap.size < wr.heap.size ∧ wr.heap.size ≤ w5.heap.size from ⟨hlo, b5.size⟩)
      have SBN : StB (nowS s (n + 1)) := fun j hj => by rw [now_tid s (n + 1) hj, tN_st]; exact HSB.out j hj
      have MN := Lib.hid (rMayS_any (nowS s (n + 1)) d W6.heap.size W6 (r5.up b6) (Nat.le_refl _) SBN)
      rw [now_may HM.out (n + 1)] at MN
      clear k6 b6 s6 b5 r5 nw L5 SBN hlo
      go_wp2_with fail
      refine MN.out.mono ?_
      rintro e w7 ⟨rfl, b7⟩
      have B7 := Lib.hid (B6.out.trans (b7.mono B6.out.size))
      have K7 := Lib.hid (KN.out.below B7.out KN.out.lt)
      have K8 := Lib.hid (K6.out.below b7 K6.out.lt)
      have R7 := Lib.hid (RN.out.up B7.out)
      have R8 := Lib.hid (R6.out.up b7)
      have x1 := st_tids K7.out
      clear b7 L6 st6
      go_wp2_with fail
      clear x1
      go_loopg [34] 3 (fun mm yK wq => ∃ (k : Nat), k ≤ 3 ∧ yK = .int .i64 k ∧ mm = 3 - k ∧ Below w7.heap.size w7 wq)
      case atStart => exact ⟨0, by omega, rfl, rfl, Below.refl _ _⟩
      case round =>
        obtain ⟨k, hk, rfl, hmk, hbk⟩ := hrel
        have HMK := Lib.hid hmk
        have BK := Lib.hid hbk
        clear hmk hbk
        by_cases hlk : k < 3
        · have dk : decide ((k : Int) < 3) = true := decide_eq_true (by omega)
          have i1 : (0 : Int) ≤ (k : Int) := by omega
          have i2 : (k : Int) < 3 := by omega
          have ix := st_index (nowS s n) c k hlk wr
          rw [show ((nowS s n).tid k).st = (s.tid k).st from by rw [now_tid s n hlk, tN_st]] at ix
          obtain ⟨W9, st9, k9, b9, s9⟩ := bk_fresh (P := Try.prog) wr 26 #[.int .i8 0, .int .i64 0, .int .i64 0, .int .i64 0, .int .i64 0, .slice none 0 0, .slice none 0 0, .int .i64 0] #[.int .i8 (s.tid k).st, .int .i64 ((nowS s n).tid k).pid, .int .i64 ((nowS s n).tid k).ep, .int .i64 ((nowS s n).tid k).tm, .int .i64 ((nowS s n).tid k).th, .slice (c.A k) ((nowS s n).tid k).ps.length (c.c k), .slice (c.D k) ((nowS s n).tid k).qs.length (c.e k), .int .i64 ((nowS s n).tid k).ag] 8 infoCoS rfl rfl (by simp [Value.oneCell'])
          have y0 := k9.cell 0
          have B9 := Lib.hid (BK.out.trans (b9.mono BK.out.size))
          have KA := Lib.hid (K7.out.below B9.out K7.out.lt)
          have KB := Lib.hid (K8.out.below B9.out K8.out.lt)
          have KC := Lib.hid k9
          have RA := Lib.hid (R7.out.up B9.out)
          have RB := Lib.hid (R8.out.up B9.out)
          have lsp := left_step HM.out n hlk
          obtain ⟨A, hA⟩ : ∃ A, A = leftS (nowS s n) (k : Int) := ⟨_, rfl⟩
          obtain ⟨B, hB⟩ : ∃ B, B = leftS (nowS s (n + 1)) (k : Int) := ⟨_, rfl⟩
          have CA := Lib.hid (fun W (hW : Below W9.heap.size W9 W) => cLeft_any (nowS s n) c (k : Int) W (RA.out.up hW))
          have CB := Lib.hid (fun W (hW : Below W9.heap.size W9 W) => cLeft_any (nowS s (n + 1)) d (k : Int) W (RB.out.up hW))
          rw [← hA] at CA lsp
          rw [← hB] at CB lsp
          have la := fun m : BW W9.heap.size W9 => st_load (KA.out.below m.2 KA.out.lt)
          have lb := fun m : BW W9.heap.size W9 => st_load (KB.out.below m.2 KB.out.lt)
          have HK0 := HLO.out
          obtain ⟨S1, hS1⟩ : ∃ S, S = nowS s n := ⟨_, rfl⟩
          obtain ⟨S2, hS2⟩ : ∃ S, S = nowS s (n + 1) := ⟨_, rfl⟩
          rw [← hS1] at CA la
          rw [← hS2] at CB lb
          clear k9 b9 s9 hA hB hS1 hS2
          by_cases h2 : (s.tid k).st = 2
          · obtain ⟨l1, l2, l3⟩ := lsp.1 h2
            have n2 : ((s.tid k).st == 2) = true := by rw [h2]; rfl
            have n3 : ((s.tid k).st != 2) = false := by rw [h2]; rfl
            have a0 : decide (A < 0) = false := decide_eq_false (by omega)
            have wa : IntKind.i64.wrap (A - 1) = A - 1 := IntWalk.i64_in _ (by omega)
            have be : (B != max 0 (A - 1)) = false := by rw [l3]; simp
            clear h2 lsp l1 l2 l3
            go_wp2_with fail
            refine wp_region_bq W9.heap.size (by kernel_rfl) (by kernel_rfl) ?_
            repeat (go_big_quiet_step (fail))
            go_big_quiet_want
            go_big_quiet_op
            refine ⟨_, fun m => bw_call (Nat.le_refl _) (CA.out m.1 m.2), ?_⟩
            go_big_quiet_on
            repeat (go_big_quiet_step (fail))
            go_big_quiet_want
            go_big_quiet_op
            refine ⟨_, fun m => bw_call (Nat.le_refl _) (CB.out m.1 m.2), ?_⟩
            go_big_quiet_on
            repeat (go_big_quiet_step (fail))
            refine wpQuiet_nil ?_
            rintro _ ⟨m, rfl⟩
            have BM := Lib.hid m.2
            have z0 := (KC.out.below m.2 KC.out.lt).cell 0
            clear la lb y0
            go_wp2_with fail
            go_roundg (3 - k - 1)
            case measure => have := HMK.out; omega
            case rel => exact ⟨k + 1, by omega, by go_num, by omega, B9.out.trans (BM.out.mono B9.out.size)⟩
          · obtain ⟨l1, l2⟩ := lsp.2 h2
            have n2 : ((s.tid k).st == 2) = false := by simpa using h2
            have n3 : ((s.tid k).st != 2) = true := by simpa using h2
            have ae : (A != -1) = false := by rw [l1]; rfl
            have be : (B != -1) = false := by rw [l2]; rfl
            clear h2 lsp l1 l2
            go_wp2_with fail
            refine wp_region_bq W9.heap.size (by kernel_rfl) (by kernel_rfl) ?_
            repeat (go_big_quiet_step (fail))
            go_big_quiet_want
            go_big_quiet_op
            refine ⟨_, fun m => bw_call (Nat.le_refl _) (CA.out m.1 m.2), ?_⟩
            go_big_quiet_on
            repeat (go_big_quiet_step (fail))
            go_big_quiet_want
            go_big_quiet_op
            refine ⟨_, fun m => bw_call (Nat.le_refl _) (CB.out m.1 m.2), ?_⟩
            go_big_quiet_on
            repeat (go_big_quiet_step (fail))
            refine wpQuiet_nil ?_
            rintro _ ⟨m, rfl⟩
            have BM := Lib.hid m.2
            have z0 := (KC.out.below m.2 KC.out.lt).cell 0
            clear la lb y0
            go_wp2_with fail
            go_roundg (3 - k - 1)
            case measure => have := HMK.out; omega
            case rel => exact ⟨k + 1, by omega, by go_num, by omega, B9.out.trans (BM.out.mono B9.out.size)⟩
        · obtain rfl : k = 3 := by omega
          have dk : decide (((3 : Nat) : Int) < 3) = false := by decide
          have KA := Lib.hid (K7.out.below BK.out K7.out.lt)
          have KB := Lib.hid (K8.out.below BK.out K8.out.lt)
          have LB := st_load KB.out
          obtain ⟨W9, st9, kk, fb, fh, fsz⟩ := bk_store (P := Try.prog) (ty := 31) (cs := stX (nowS s (n + 1)) d) 31 KA.out infoSta rfl rfl (stX_one _ _)
          have K9 := Lib.hid kk
          have B9 := Lib.hid (fb w2.heap.size w2 (Nat.le_refl _) ((BW'.out.trans (B7.out.mono BW'.out.size)).trans (BK.out.mono (by have := BW'.out.size; have := B7.out.size; omega))))
          have R9 := Lib.hid (show StR W9 W9.heap.size (nowS s (n + 1)) d from fun j hj => ((R8.out.up BK.out) j hj).keepO (AW6.out j hj).1 (AW6.out j hj).2 fh fsz)
          clear kk fb fh fsz
          go_wp2_with fail
          go_roundg (20 - n - 1)
          case measure => have := HMM.out; omega
          case rel => exact ⟨n + 1, d, by omega, by go_num, by omega, K9.out, R9.out, AW6.out, B9.out⟩
    · obtain rfl : n = 20 := by omega
      have d3 : decide (((20 : Nat) : Int) < 20) = false := by decide
      have L5 := st_load KN.out
      have BX := Lib.hid (B2.out.trans (BW'.out.mono B2.out.size))
      have KX := Lib.hid (K2.out.below BW'.out K2.out.lt)
      have DU := Lib.hid (cDue_any (nowS s 20) c wr RN.out)
      obtain ⟨ol, hol⟩ : ∃ l, l = ongL s 3 := ⟨_, rfl⟩
      rw [now_due HM.out, ← hol] at DU
      have hl3 : ol.length ≤ 3 := by rw [hol]; exact ongL_len s 3
      have HOL := Lib.hid hol
      clear hol
      go_wp2_with fail
      refine DU.out.mono ?_
      rintro e w5 ⟨A, n7, rfl, r5, b5⟩
      rw [List.length_map] at r5 ⊢
      have R5 := Lib.hid r5
      have B5 := Lib.hid (BX.out.trans (b5.mono BX.out.size))
      have KZ := Lib.hid (KX.out.below b5 KX.out.lt)
      have x1 := st_tids KZ.out
      clear b5 r5 L5
      go_wp2_with fail
      clear x1
      go_loopg [11, 77] 3 (fun mm yA yK wq => ∃ (k : Nat), k ≤ 3 ∧ yK = .int .i64 k ∧ yA = .int .i64 ((ongL s k).length : Nat) ∧ mm = 3 - k ∧ Below w5.heap.size w5 wq)
      case atStart => exact ⟨0, by omega, rfl, rfl, rfl, Below.refl _ _⟩
      case round =>
        obtain ⟨k, hk, rfl, rfl, hmk, hbk⟩ := hrel
        have HMK := Lib.hid hmk
        have BK := Lib.hid hbk
        clear hmk hbk
        by_cases hlk : k < 3
        · have dk : decide ((k : Int) < 3) = true := decide_eq_true (by omega)
          have ix := st_index s a k hlk wr
          obtain ⟨W9, st9, k9, b9, s9⟩ := bk_fresh (P := Try.prog) wr 26 #[.int .i8 0, .int .i64 0, .int .i64 0, .int .i64 0, .int .i64 0, .slice none 0 0, .slice none 0 0, .int .i64 0] #[.int .i8 (s.tid k).st, .int .i64 (s.tid k).pid, .int .i64 (s.tid k).ep, .int .i64 (s.tid k).tm, .int .i64 (s.tid k).th, .slice (a.A k) (s.tid k).ps.length (a.c k), .slice (a.D k) (s.tid k).qs.length (a.e k), .int .i64 (s.tid k).ag] 8 infoCoS rfl rfl (by simp [Value.oneCell'])
          have y0 := k9.cell 0
          have B9 := Lib.hid (BK.out.trans (b9.mono BK.out.size))
          clear k9 b9 s9
          by_cases h2 : (s.tid k).st = 2
          · have n3 : ((s.tid k).st != 2) = false := by rw [h2]; rfl
            obtain ⟨t1, t2, t3⟩ := ong_at s hlk h2
            rw [← HOL.out] at t1 t2
            obtain ⟨b1, o1, rfl, hb1, hc1⟩ := R5.out.plain (by omega)
            obtain ⟨q, hq⟩ : ∃ q, q = (ongL s k).length := ⟨_, rfl⟩
            rw [← hq] at t1 t2 t3 ⊢
            have ce : W9.cell? ⟨b1, o1 + q, none⟩ = some (.int .i64 (k : Int)) := by
              rw [B9.out.cell (by exact hb1)]
              exact hc1 q _ (by rw [getElem?_cellsI, List.getElem?_map, t1]; rfl)
            have j1 : (0 : Int) ≤ (q : Int) := by omega
            have j2 : (q : Int) < (ol.length : Int) := by omega
            have j3 : decide ((ol.length : Int) ≤ (q : Int)) = false := decide_eq_false (by omega)
            have j4 : ¬ ol.length ≤ q := by omega
            have wq' : IntKind.i64.wrap ((q : Int) + 1) = (q : Int) + 1 := IntWalk.i64_in _ (by omega)
            have T3 := Lib.hid t3
            clear h2 t1 t2 t3 hc1 hq
            go_wp2_with fail
            go_roundg (3 - k - 1)
            case measure => have := HMK.out; omega
            case rel => exact ⟨k + 1, by omega, by go_num, by rw [T3.out]; go_num, by omega, B9.out⟩
          · have n3 : ((s.tid k).st != 2) = true := by simpa using h2
            have e : ongL s (k + 1) = ongL s k := by rw [ongL_succ, show ((s.tid k).st == 2) = false by simpa using h2, if_neg (by decide), List.append_nil]
            have HE := Lib.hid e
            clear h2 e
            go_wp2_with fail
            go_roundg (3 - k - 1)
            case measure => have := HMK.out; omega
            case rel => exact ⟨k + 1, by omega, by go_num, by rw [HE.out], by omega, B9.out⟩
        · obtain rfl : k = 3 := by omega
          have dk : decide (((3 : Nat) : Int) < 3) = false := by decide
          rw [← HOL.out]
          go_wp2_with fail
          refine (wakes21 _).mono ?_
          rintro e w9 ⟨rfl, b9⟩
          have BE := Lib.hid (btrans (B5.out.trans (BK.out.mono B5.out.size)) b9)
          clear b9
          go_wp2_with fail
          go_ret
          exact ⟨rfl, BE.out⟩
end

theorem cdue_walk (s : Sta) (a : Sad) (w : World) (h : StRaw w s a) :
    Calls Try.prog 4 #[.agg (stX s a)] w fun e w' => e = .returned (.bool true) ∧ Below w.heap.size w w' := by
  cases hb : bigS s
  · cases hm : mayS s
    · exact cdue_not s a w (h.small hb) h.num hb hm
    · exact cdue_yes s a w (h.small hb) h.num hb hm
  · exact cdue_big s a w hb

end Go.Proofs.Ytagclnmchkgpdaa
namespace Go.Proofs.Ytagclnmchkgpdaa.clockDue
open Go.ChangeShapes Go.WideShapes Go.ChangeAt Go.RowKit
open Go.ChangeMaps (open_string shut_string)
set_option linter.unusedVariables false

theorem own : ownKnob Try.prog.godebug = none := by kernel_rfl
theorem laidOut : laidOutB Try.prog = true := by kernel_rfl

set_option maxRecDepth 100000 in
theorem lifted (os : Os) (started : os.Started) (H : Type) (enc : TypeId × Value → H) :
    ReturnsInHanded {} Try.checked os 4 .any (Rows.clockDueSpec.pre6 enc Try.prog Try.f4 Rows.clockDueRow.domain false) (Rows.clockDueSpec.post enc Try.prog Try.f4 false true false false) := by
  refine returnsInHanded_of_change_sized (C := Try.checked) own started (by kernel_rfl) Try.func4
    (ChangeSpec.witness6 (enc := enc) (C := Try.checked) false ⟨#[], #[.agg #[.int .i64 0, .int .i8 0, .int .i64 0, .int .i64 0, .int .i64 0, .int .i64 0, .slice none 0 0, .slice none 0 0, .int .i64 0, .int .i8 0, .int .i64 0, .int .i64 0, .int .i64 0, .int .i64 0, .slice none 0 0, .slice none 0 0, .int .i64 0, .int .i8 0, .int .i64 0, .int .i64 0, .int .i64 0, .int .i64 0, .slice none 0 0, .slice none 0 0, .int .i64 0, .int .i64 0, .int .i64 0, .int .i64 0, .int .i64 0, .int .i64 0, .int .i64 0]], []⟩ 8 (by kernel_rfl) (by kernel_rfl) (by kernel_rfl) (by kernel_rfl)) ?_
  intro W base args ds gs before hval0 hW hcnd hsz0 _
  have hval : ∀ (j : Nat) t v, Try.f4.params[j]? = some t → args[j]? = some v → Value.okWide Try.prog W .any base t v := hval0
  have hsz : (DataW.weightsEach Try.prog (Try.f4.params.toList ++ Rows.clockDueSpec.plain.varTypes Try.prog) (ds ++ gs)).all (· ≤ reachBytes) = true := hsz0
  have hW' := hW
  obtain ⟨p, q, hA0, hV, rfl, hfz, hnd⟩ := hW
  have hA : DataW.TrodAll enc Try.prog W 0 (fun _ => true) true Try.f4.params.toList args.toList ds p := hA0
  rw [Try.params4] at hA hval hsz
  obtain ⟨v0, vs0, d0, ds0, p0, q0, hargs, rfl, rfl, h0, r0⟩ := trodAll_cons hA
  obtain ⟨rfl, rfl, rfl⟩ := trodAll_nil r0
  obtain rfl : args = #[v0] := by cases args; simp_all
  obtain ⟨rfl, rfl⟩ := trodVars_none hV
  have k0 := h0
  have lt0 : ∀ x ∈ p0, x.block < W.heap.size := by obtain ⟨m, hm⟩ := k0; exact DataW.trod_lt m _ _ _ hm
  obtain ⟨st0, sa0, rfl, sr0⟩ := open_st (hval 0 31 v0 rfl rfl) h0
  clear hA0 hval0
  refine (cdue_walk st0 sa0 W sr0).mono fun e W' ⟨he, bel⟩ => ?_
  subst he
  exact ⟨_, rfl, _, _, _, [], _, [], hW', trodAll_mk1 (shut_bool Try.underlying4 _), (trodAll_cons_mk (Below.trod laidOut (by kernel_rfl) (of_decide_eq_true (by kernel_rfl)) k0 bel lt0) trodAll_mk0), rfl, bel.frame _, fun h => by cases h⟩

theorem over : Rows.clockDueRow.holds Try.pinned (OpenSpec.ofChange Rows.clockDueSpec) :=
  OpenClaim.holds_of_wide 4 Try.f4 rfl rfl rfl rfl rfl rfl rfl ⟨rfl, rfl, rfl, rfl, rfl⟩ rfl rfl rfl rfl rfl (by kernel_rfl) Try.func4 (by kernel_rfl)
    (of_decide_eq_true (by kernel_rfl)) (by unfold Func.isWrapper; first | (rw [if_pos (by decide +kernel)]; kernel_rfl) | (rw [if_neg (by decide +kernel)]; exact ⟨rfl, rfl⟩))
    (fun os started H enc _ => lifted os started H enc)

theorem proved : Rows.ClockDueSaid := over
end Go.Proofs.Ytagclnmchkgpdaa.clockDue
