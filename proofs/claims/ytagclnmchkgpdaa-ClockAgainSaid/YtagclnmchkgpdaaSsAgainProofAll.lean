/-
  The statement ClockAgain is proved: for every input the call returns true, and each argument reads as before. No condition.
  The statement ClockAgain: its walk.
-/
import Derived.Test.YtagclnmchkgpdaaGrp19
import Derived.Deep.RegionHeld3
import Derived.Test.YtagclnmchkgpdaaGrp02
import Derived.Test.YtagclnmchkgpdaaRows
set_option linter.unusedVariables false
set_option linter.unusedSimpArgs false
namespace Go.Proofs.Ytagclnmchkgpdaa
open Go.RowKit
theorem again_range (n : Int) : 0 ≤ Int.tmod (Int.tmod n 30 + 30) 30 ∧ Int.tmod (Int.tmod n 30 + 30) 30 < 30 := by
  have h1 : -30 < Int.tmod n 30 ∧ Int.tmod n 30 < 30 := by
    rw [Int.tmod_eq_emod]
    split <;> omega
  rw [Int.tmod_eq_emod_of_nonneg (by omega)]
  omega
section
attribute [-go_sem] loadCells storeVar
set_option maxRecDepth 100000 in
set_option maxHeartbeats 8000000 in
theorem cagn_big (s : Sta) (a : Sad) (n : Int) (w : World) (hbig : bigS s = true) :
    Calls Try.prog 7 #[.agg (stX s a), .int .i64 n] w fun e w' => e = .returned (.bool true) ∧ Below w.heap.size w w' := by
  have HB := Lib.hid (bal (Below.refl w.heap.size w) (.cells (stX s a) 31))
  have L0 := st_load (Blk.new w 31 (stX s a))
  have GR := Lib.hid (fun W => great_any s a W)
  rw [hbig] at GR
  clear hbig
  go_enter Try.func7, Try.ntmps7
  go_wp2_with fail
  refine (GR.out _).mono ?_
  rintro e w1 ⟨rfl, b1⟩
  have B1 := Lib.hid (btrans HB.out b1)
  clear b1 L0
  go_wp2_with fail
  refine (wakes21 _).mono ?_
  rintro e w9 ⟨rfl, b9⟩
  go_wp2_with fail
  go_ret
  exact ⟨rfl, btrans B1.out b9⟩
set_option maxRecDepth 100000 in
set_option maxHeartbeats 8000000 in
theorem cagn_not (s : Sta) (a : Sad) (n : Int) (w : World) (h : StR w w.heap.size s a) (hb : StB s) (hbig : bigS s = false) (hm : mayS s = false) :
    Calls Try.prog 7 #[.agg (stX s a), .int .i64 n] w fun e w' => e = .returned (.bool true) ∧ Below w.heap.size w w' := by
  have HB := Lib.hid (bal (Below.refl w.heap.size w) (.cells (stX s a) 31))
  have K0 := Lib.hid (Blk.new w 31 (stX s a))
  have L0 := st_load (Blk.new w 31 (stX s a))
  have GR := Lib.hid (fun W => great_any s a W)
  have MY := Lib.hid (fun W (hW : Below w.heap.size w W) => rMayS_any s a w.heap.size W (h.below hW) hW.size hb)
  rw [hbig] at GR
  rw [hm] at MY
  clear hbig hm h hb
  go_enter Try.func7, Try.ntmps7
  go_wp2_with fail
  refine (GR.out _).mono ?_
  rintro e w1 ⟨rfl, b1⟩
  have B1 := Lib.hid (btrans HB.out b1)
  have L1 := st_load (K0.out.below b1 (by simp))
  clear b1 L0
  go_wp2_with fail
  refine (MY.out _ B1.out).mono ?_
  rintro e w2 ⟨rfl, b2⟩
  have B2 := Lib.hid (btrans B1.out b2)
  clear b2 L1
  go_wp2_with fail
  refine (wakes21 _).mono ?_
  rintro e w9 ⟨rfl, b9⟩
  go_wp2_with fail
  go_ret
  exact ⟨rfl, btrans B2.out b9⟩
set_option maxRecDepth 100000 in
set_option maxHeartbeats 16000000 in
theorem cagn_yes (s : Sta) (a : Sad) (n : Int) (w : World) (h : StR w w.heap.size s a) (hb : StB s) (hbig : bigS s = false) (hm : mayS s = true) :
    Calls Try.prog 7 #[.agg (stX s a), .int .i64 n] w fun e w' => e = .returned (.bool true) ∧ Below w.heap.size w w' := by

  have HB := Lib.hid (bal (Below.refl w.heap.size w) (.cells (stX s a) 31))
  have K0 := Lib.hid (Blk.new w 31 (stX s a))
  have L0 := st_load (Blk.new w 31 (stX s a))
  have GR := Lib.hid (fun W => great_any s a W)
  have MY := Lib.hid (fun W (hW : Below w.heap.size w W) => rMayS_any s a w.heap.size W (h.below hW) hW.size hb)
  have H := Lib.hid h
  have HM := Lib.hid hm
  rw [hbig] at GR
  rw [hm] at MY
  clear hbig hm h hb
  go_enter Try.func7, Try.ntmps7
  go_wp2_with fail
  refine (GR.out _).mono ?_
  rintro e w1 ⟨rfl, b1⟩
  have B1 := Lib.hid (btrans HB.out b1)
  have k1 := K0.out.below b1 (by simp)
  have K1 := Lib.hid k1
  have L1 := st_load k1
  clear b1 L0 k1
  go_wp2_with fail
  refine (MY.out _ B1.out).mono ?_
  rintro e w2 ⟨rfl, b2⟩
  have B2 := Lib.hid (btrans B1.out b2)
  have K2 := Lib.hid (K1.out.below b2 K1.out.lt)
  have L2 := st_load K2.out
  clear b2 L1

  obtain ⟨W4, st4, k4, b4, s4⟩ := bk_fresh (P := Try.prog) w2 31 #[.int .i64 0, .int .i8 0, .int .i64 0, .int .i64 0, .int .i64 0, .int .i64 0, .slice none 0 0, .slice none 0 0, .int .i64 0, .int .i8 0, .int .i64 0, .int .i64 0, .int .i64 0, .int .i64 0, .slice none 0 0, .slice none 0 0, .int .i64 0, .int .i8 0, .int .i64 0, .int .i64 0, .int .i64 0, .int .i64 0, .slice none 0 0, .slice none 0 0, .int .i64 0, .int .i64 0, .int .i64 0, .int .i64 0, .int .i64 0, .int .i64 0, .int .i64 0] (stX s a) 31 infoSta rfl rfl (stX_one _ _)
  have K4 := Lib.hid k4
  have B24 := Lib.hid b4
  have B4 := Lib.hid (B2.out.trans (b4.mono B2.out.size))
  have KS := Lib.hid (K2.out.below b4 K2.out.lt)
  have H4 := Lib.hid ((H.out.up B2.out).up b4)
  have HLT := Lib.hid (show w.heap.size < w2.heap.size from K2.out.lt)
  clear k4 b4 s4
  obtain ⟨N, hN⟩ : ∃ N : Nat, Int.tmod (Int.tmod n 30 + 30) 30 = (N : Int) := ⟨(Int.tmod (Int.tmod n 30 + 30) 30).toNat, by have := again_range n; omega⟩
  have hN30 : N < 30 := by have := again_range n; omega
  have wr1 : wrap64 (Int.tmod n 30 + 30) = Int.tmod n 30 + 30 := by
    have h1 : -30 < Int.tmod n 30 ∧ Int.tmod n 30 < 30 := by
      rw [Int.tmod_eq_emod]
      split <;> omega
    exact IntWalk.wrap64_in _ (by omega)
  go_wp2_with fail
  clear st4 L2 wr1
  have HN := Lib.hid hN
  clear hN
  go_loopg [6] N (fun mm yK wq => ∃ (k : Nat) (c : Sad), k ≤ N ∧ yK = .int .i64 k ∧ mm = N - k ∧ Blk wq w2.heap.size 31 (stX (nowS s k) c) ∧ StR wq wq.heap.size (nowS s k) c ∧ (∀ j, j < 3 → AwayB w2.heap.size ((nowS s k).tid j).ps.length (c.A j) ∧ AwayB w2.heap.size ((nowS s k).tid j).qs.length (c.D j)) ∧ Below w2.heap.size w2 wq)
  case atStart =>
    refine ⟨0, a, Nat.zero_le _, rfl, rfl, by rw [now_zero HM.out]; exact K4.out, by rw [now_zero HM.out]; exact H4.out, fun j hj => ?_, by have := B4.out; exact B24.out⟩
    rw [now_zero HM.out]
    have h2 := (H.out.up B2.out) j hj
    exact ⟨h2.1.awayB (Nat.le_refl _), h2.2.1.awayB (Nat.le_refl _)⟩
  case round =>
    obtain ⟨k, c, hk, rfl, hmm, hkb, hr, haw, hbw⟩ := hrel
    have HMM := Lib.hid hmm
    have KN := Lib.hid hkb
    have RN := Lib.hid hr
    have AW := Lib.hid haw
    have BW' := Lib.hid hbw
    clear hmm hkb hr haw hbw
    by_cases hlt : k < N
    · have d3 : decide ((k : Int) < (N : Int)) = true := decide_eq_true (by omega)
      have L5 := st_load KN.out
      have TK := Lib.hid (show Calls Try.prog 13 #[.agg (stX (nowS s k) c)] wr (StNew (nowS s (k + 1)) wr) from by
        rw [← now_succ HM.out k]
        have := cT_yes (nowS s k) c wr RN.out (now_may HM.out k)
        unfold tickS
        rw [if_pos (now_may HM.out k)]
        exact this)
      have w1' : IntKind.i64.wrap ((k : Int) + 1) = (k : Int) + 1 := IntWalk.i64_in _ (by omega)
      go_wp2_with fail
      refine TK.out.mono ?_
      rintro e w5 ⟨d, rfl, r5, b5, nw⟩
      obtain ⟨W9, st9, kk, fb, fh, fsz⟩ := bk_store (P := Try.prog) (ty := 31) (cs := stX (nowS s (k + 1)) d) 31 (KN.out.below b5 KN.out.lt) infoSta rfl rfl (stX_one _ _)
      have hlo := KN.out.lt
      have K9 := Lib.hid kk
      have B9 := Lib.hid (fb w2.heap.size w2 (Nat.le_refl _) (BW'.out.trans (b5.mono BW'.out.size)))
      have AW9 := Lib.hid (show ∀ j, j < 3 → AwayB w2.heap.size ((nowS s (k + 1)).tid j).ps.length (d.A j) ∧ AwayB w2.heap.size ((nowS s (k + 1)).tid j).qs.length (d.D j) from fun j hj => ⟨(nw j hj).1.awayB hlo, (nw j hj).2.awayB hlo⟩)
      have R9 := Lib.hid (show StR W9 W9.heap.size (nowS s (k + 1)) d from fun j hj => (r5 j hj).keepO (AW9.out j hj).1 (AW9.out j hj).2 fh fsz)
      clear kk fb fh fsz r5 b5 nw hlo L5
      go_wp2_with fail
      go_roundg (gk - 1)
      case measure => have := HMM.out; omega
      case rel => exact ⟨k + 1, d, by omega, by go_num, by have := HMM.out; omega, K9.out, R9.out, AW9.out, B9.out⟩
    · obtain rfl : k = N := by omega
      have d3 : decide ((k : Int) < (k : Int)) = false := by simp
      have KX := Lib.hid (K2.out.below BW'.out K2.out.lt)
      have x1 := st_tids KX.out
      have BX := Lib.hid (B2.out.trans (BW'.out.mono B2.out.size))
      go_wp2_with fail
      clear x1
      go_loopg [32] 3 (fun mm yK wq => ∃ (i : Nat), i ≤ 3 ∧ yK = .int .i64 i ∧ mm = 3 - i ∧ Below wr.heap.size wr wq)
      case atStart => exact ⟨0, by omega, rfl, rfl, Below.refl _ _⟩
      case round =>
        rename_i wv
        obtain ⟨i, hi, rfl, hmi, hbi⟩ := hrel
        have HMI := Lib.hid hmi
        have BI := Lib.hid hbi
        clear hmi hbi
        by_cases hli : i < 3
        · have di : decide ((i : Int) < 3) = true := decide_eq_true (by omega)
          have i1 : (0 : Int) ≤ (i : Int) := by omega
          have i2 : (i : Int) < 3 := by omega
          have ix := st_index s a i hli wr
          obtain ⟨W5, st5, k5, b5, s5⟩ := bk_fresh (P := Try.prog) wr 26 #[.int .i8 0, .int .i64 0, .int .i64 0, .int .i64 0, .int .i64 0, .slice none 0 0, .slice none 0 0, .int .i64 0] #[.int .i8 (s.tid i).st, .int .i64 (s.tid i).pid, .int .i64 (s.tid i).ep, .int .i64 (s.tid i).tm, .int .i64 (s.tid i).th, .slice (a.A i) (s.tid i).ps.length (a.c i), .slice (a.D i) (s.tid i).qs.length (a.e i), .int .i64 (s.tid i).ag] 8 infoCoS rfl rfl (by simp [Value.oneCell'])
          have B5 := Lib.hid (BI.out.trans (b5.mono BI.out.size))
          have KY := Lib.hid (KN.out.below B5.out KN.out.lt)
          have ld := st_tid KY.out i hli
          obtain ⟨g, hg⟩ : ∃ g : Int, tN (s.tid i) k = { s.tid i with ag := g } ∧ ((s.tid i).st = 2 → g = min ((s.tid i).ag + k) 1048576) ∧ ((s.tid i).st ≠ 2 → g = (s.tid i).ag) := by
            unfold tN
            by_cases h2 : (s.tid i).st = 2
            · rw [if_pos h2]; exact ⟨_, rfl, fun _ => rfl, fun h => absurd h2 h⟩
            · rw [if_neg h2]; exact ⟨(s.tid i).ag, rfl, fun h => absurd h h2, fun _ => rfl⟩
          rw [now_tid s k hli, hg.1] at ld
          dsimp only at ld
          obtain ⟨W6, st6, k6, b6, s6⟩ := bk_fresh (P := Try.prog) W5 26 #[.int .i8 0, .int .i64 0, .int .i64 0, .int .i64 0, .int .i64 0, .slice none 0 0, .slice none 0 0, .int .i64 0] #[.int .i8 (s.tid i).st, .int .i64 (s.tid i).pid, .int .i64 (s.tid i).ep, .int .i64 (s.tid i).tm, .int .i64 (s.tid i).th, .slice (c.A i) (s.tid i).ps.length (c.c i), .slice (c.D i) (s.tid i).qs.length (c.e i), .int .i64 g] 8 infoCoS rfl rfl (by simp [Value.oneCell'])
          have y0 := k6.cell 0
          have y7 := k6.cell 7
          have C5 := k5.below b6 k5.lt
          have z0 := C5.cell 0
          have z7 := C5.cell 7
          have B6 := Lib.hid (B5.out.trans (b6.mono B5.out.size))
          have HG := Lib.hid hg.2
          have mt := mayS_tid HM.out hli
          clear k5 b5 s5 k6 b6 s6 C5 hg
          by_cases h2 : (s.tid i).st = 2
          · have n2 : ((s.tid i).st == 2) = true := by rw [h2]; rfl
            have n3 : ((s.tid i).st != 2) = false := by rw [h2]; rfl
            have ta := may_tmag mt h2
            have wa : IntKind.i64.wrap ((s.tid i).ag + (k : Int)) = (s.tid i).ag + (k : Int) := IntWalk.i64_in _ (by omega)
            have ge : (g != min ((s.tid i).ag + (k : Int)) 1048576) = false := by rw [HG.out.1 h2]; simp
            clear h2 ta mt
            go_wp2_with fail
            go_roundg (3 - i - 1)
            case measure => have := HMI.out; omega
            case rel => exact ⟨i + 1, by omega, by go_num, by omega, B6.out⟩
          · have n2 : ((s.tid i).st == 2) = false := by simpa using h2
            have n3 : ((s.tid i).st != 2) = true := by simpa using h2
            have ge : (g != (s.tid i).ag) = false := by rw [HG.out.2 h2]; simp
            clear h2 mt
            go_wp2_with fail
            go_roundg (3 - i - 1)
            case measure => have := HMI.out; omega
            case rel => exact ⟨i + 1, by omega, by go_num, by omega, B6.out⟩
        · obtain rfl : i = 3 := by omega
          have di : decide (((3 : Nat) : Int) < 3) = false := by decide
          have KV := Lib.hid (KN.out.below BI.out KN.out.lt)
          have KU := Lib.hid (KX.out.below BI.out KX.out.lt)
          have RV := Lib.hid (RN.out.up BI.out)
          have RU := Lib.hid (H.out.up (BX.out.trans (BI.out.mono BX.out.size)))
          obtain ⟨ys, hys⟩ : ∃ x, x = youngS s := ⟨_, rfl⟩
          have CY := Lib.hid (fun W (hW : Below wr.heap.size wr W) => cYoung_any (nowS s k) c W (RV.out.up hW))
          have CZ := Lib.hid (fun W (hW : Below wr.heap.size wr W) => cYoung_any s a W (RU.out.up hW))
          rw [young_now HM.out, ← hys] at CY
          rw [← hys] at CZ
          have SS := Lib.hid (fun W (hW : Below wr.heap.size wr W) => And.intro hW (And.intro (st_load (KV.out.below hW KV.out.lt)) (st_load (KU.out.below hW KU.out.lt))))
          clear hys
          go_wp2_with fail
          go_region_held3 (fun W => Below wr.heap.size wr W ∧ (loadCells ⟨w2.heap.size, 0, none⟩ 31).run Try.prog W = .ok (stX (nowS s k) c) W ∧ (loadCells ⟨w.heap.size, 0, none⟩ 31).run Try.prog W = .ok (stX s a) W)
            (first | exact SS.out _ (Below.refl _ _).drew | exact SS.out _ hb4 | exact SS.out _ hb3 | exact SS.out _ hb2 | exact SS.out _ hb1)
            (first
              | (go_at_call 15
                 have hw0 : Below wr.heap.size wr _ := (by go_split_ands; assumption)
                 have hx1 := R1
                 refine (CZ.out _ hw0).mono ?_
                 rintro e v2 ⟨d2, rfl, r2, k2⟩
                 have hb2 := hw0.trans (k2.mono hw0.size)
                 have R1' := Lib.hid (R1.out.up k2)
                 have R2 := Lib.hid r2
                 clear hw0 k2 r2 hx1)
              | (go_at_call 15
                 have hw0 : Below wr.heap.size wr _ := (by go_split_ands; assumption)
                 refine (CY.out _ hw0).mono ?_
                 rintro e v1 ⟨d1, rfl, r1, k1⟩
                 have hb1 := hw0.trans (k1.mono hw0.size)
                 have R1 := Lib.hid r1
                 clear hw0 k1 r1)
              | (go_at_call 12
                 have hw0 : Below wr.heap.size wr _ := (by go_split_ands; assumption)
                 refine (rSameS_any ys ys d1 d2 _ _ _ R1'.out R2.out (Nat.le_refl _) (Nat.le_refl _)).mono ?_
                 rw [sameS_refl]
                 rintro e v3 ⟨rfl, k3⟩
                 have hb3 := hw0.trans (k3.mono hw0.size)
                 clear hw0 k3)
              | (go_at_call 9
                 have hw0 : Below wr.heap.size wr _ := (by go_split_ands; assumption)
                 refine (wakes21 _).mono ?_
                 rintro e v4 ⟨rfl, k4⟩
                 have hb4 := hw0.trans (k4.mono hw0.size)
                 clear hw0 k4))
          all_goals
            have BE := Lib.hid ((BX.out.trans (BI.out.mono BX.out.size)).trans (hb4.mono (by have := BX.out.size; have := BI.out.size; omega)))
            go_wp2_with fail
            go_ret
            exact ⟨rfl, BE.out⟩
end

theorem cagn_walk (s : Sta) (a : Sad) (n : Int) (w : World) (h : StRaw w s a) :
    Calls Try.prog 7 #[.agg (stX s a), .int .i64 n] w fun e w' => e = .returned (.bool true) ∧ Below w.heap.size w w' := by
  cases hb : bigS s
  · cases hm : mayS s
    · exact cagn_not s a n w (h.small hb) h.num hb hm
    · exact cagn_yes s a n w (h.small hb) h.num hb hm
  · exact cagn_big s a n w hb

end Go.Proofs.Ytagclnmchkgpdaa
namespace Go.Proofs.Ytagclnmchkgpdaa.clockAgain
open Go.ChangeShapes Go.WideShapes Go.ChangeAt Go.RowKit
open Go.ChangeMaps (open_string shut_string)
set_option linter.unusedVariables false

theorem own : ownKnob Try.prog.godebug = none := by kernel_rfl
theorem laidOut : laidOutB Try.prog = true := by kernel_rfl

set_option maxRecDepth 100000 in
theorem lifted (os : Os) (started : os.Started) (H : Type) (enc : TypeId × Value → H) :
    ReturnsInHanded {} Try.checked os 7 .any (Rows.clockAgainSpec.pre6 enc Try.prog Try.f7 Rows.clockAgainRow.domain false) (Rows.clockAgainSpec.post enc Try.prog Try.f7 false true false false) := by
  refine returnsInHanded_of_change_sized (C := Try.checked) own started (by kernel_rfl) Try.func7
    (ChangeSpec.witness6 (enc := enc) (C := Try.checked) false ⟨#[], #[.agg #[.int .i64 0, .int .i8 0, .int .i64 0, .int .i64 0, .int .i64 0, .int .i64 0, .slice none 0 0, .slice none 0 0, .int .i64 0, .int .i8 0, .int .i64 0, .int .i64 0, .int .i64 0, .int .i64 0, .slice none 0 0, .slice none 0 0, .int .i64 0, .int .i8 0, .int .i64 0, .int .i64 0, .int .i64 0, .int .i64 0, .slice none 0 0, .slice none 0 0, .int .i64 0, .int .i64 0, .int .i64 0, .int .i64 0, .int .i64 0, .int .i64 0, .int .i64 0], .int .i64 0], []⟩ 8 (by kernel_rfl) (by kernel_rfl) (by kernel_rfl) (by kernel_rfl)) ?_
  intro W base args ds gs before hval0 hW hcnd hsz0 _
  have hval : ∀ (j : Nat) t v, Try.f7.params[j]? = some t → args[j]? = some v → Value.okWide Try.prog W .any base t v := hval0
  have hsz : (DataW.weightsEach Try.prog (Try.f7.params.toList ++ Rows.clockAgainSpec.plain.varTypes Try.prog) (ds ++ gs)).all (· ≤ reachBytes) = true := hsz0
  have hW' := hW
  obtain ⟨p, q, hA0, hV, rfl, hfz, hnd⟩ := hW
  have hA : DataW.TrodAll enc Try.prog W 0 (fun _ => true) true Try.f7.params.toList args.toList ds p := hA0
  rw [Try.params7] at hA hval hsz
  obtain ⟨v0, vs0, d0, ds0, p0, q0, hargs, rfl, rfl, h0, r0⟩ := trodAll_cons hA
  obtain ⟨v1, vs1, d1, ds1, p1, q1, rfl, rfl, rfl, h1, r1⟩ := trodAll_cons r0
  obtain ⟨rfl, rfl, rfl⟩ := trodAll_nil r1
  obtain rfl : args = #[v0, v1] := by cases args; simp_all
  obtain ⟨rfl, rfl⟩ := trodVars_none hV
  have k0 := h0
  have lt0 : ∀ x ∈ p0, x.block < W.heap.size := by obtain ⟨m, hm⟩ := k0; exact DataW.trod_lt m _ _ _ hm
  obtain ⟨st0, sa0, rfl, sr0⟩ := open_st (hval 0 31 v0 rfl rfl) h0
  obtain ⟨a1, rfl, rfl, rfl, w1⟩ := open_int Try.underlying3 (hval 1 3 v1 rfl rfl) h1
  clear hA0 hval0
  refine (cagn_walk st0 sa0 a1 W sr0).mono fun e W' ⟨he, bel⟩ => ?_
  subst he
  exact ⟨_, rfl, _, _, _, [], _, [], hW', trodAll_mk1 (shut_bool Try.underlying4 _), (trodAll_cons_mk (Below.trod laidOut (by kernel_rfl) (of_decide_eq_true (by kernel_rfl)) k0 bel lt0) (trodAll_cons_mk (shut_int Try.underlying3 w1) trodAll_mk0)), rfl, bel.frame _, fun h => by cases h⟩

theorem over : Rows.clockAgainRow.holds Try.pinned (OpenSpec.ofChange Rows.clockAgainSpec) :=
  OpenClaim.holds_of_wide 7 Try.f7 rfl rfl rfl rfl rfl rfl rfl ⟨rfl, rfl, rfl, rfl, rfl⟩ rfl rfl rfl rfl rfl (by kernel_rfl) Try.func7 (by kernel_rfl)
    (of_decide_eq_true (by kernel_rfl)) (by unfold Func.isWrapper; first | (rw [if_pos (by decide +kernel)]; kernel_rfl) | (rw [if_neg (by decide +kernel)]; exact ⟨rfl, rfl⟩))
    (fun os started H enc _ => lifted os started H enc)

theorem proved : Rows.ClockAgainSaid := over
end Go.Proofs.Ytagclnmchkgpdaa.clockAgain
