/-
  The statement ClockYoung is proved: for every input the call returns true, and each argument reads as before. No condition.
  The statement ClockYoung: its walk.
-/
import Derived.Test.YtagclnmchkgpdaaGrp19
import Derived.Deep.RegionHeld3
import Derived.Test.YtagclnmchkgpdaaGrp02
import Derived.Test.YtagclnmchkgpdaaRows
set_option linter.unusedVariables false
set_option linter.unusedSimpArgs false
namespace Go.Proofs.Ytagclnmchkgpdaa
open Go.RowKit
section
attribute [-go_sem] loadCells storeVar
set_option maxRecDepth 100000 in
set_option maxHeartbeats 8000000 in
theorem cyng_big (s : Sta) (a : Sad) (w : World) (hbig : bigS s = true) :
    Calls Try.prog 5 #[.agg (stX s a)] w fun e w' => e = .returned (.bool true) ∧ Below w.heap.size w w' := by
  have HB := Lib.hid (bal (Below.refl w.heap.size w) (.cells (stX s a) 31))
  have L0 := st_load (Blk.new w 31 (stX s a))
  have GR := Lib.hid (fun W => great_any s a W)
  rw [hbig] at GR
  clear hbig
  go_enter Try.func5, Try.ntmps5
  go_wp2_with fail
  refine (GR.out _).mono ?_
  rintro e w1 ⟨rfl, b1⟩
  have B1 := Lib.hid (btrans HB.out b1)
  clear b1 L0
  go_wp2_with fail
  refine (wakes21 _).mono ?_
  rintro e w9 ⟨rfl, b9⟩
  go_wp2_with fail
  go_ret
  exact ⟨rfl, btrans B1.out b9⟩
set_option maxRecDepth 100000 in
set_option maxHeartbeats 8000000 in
theorem cyng_not (s : Sta) (a : Sad) (w : World) (h : StR w w.heap.size s a) (hb : StB s) (hbig : bigS s = false) (hm : mayS s = false) :
    Calls Try.prog 5 #[.agg (stX s a)] w fun e w' => e = .returned (.bool true) ∧ Below w.heap.size w w' := by
  have HB := Lib.hid (bal (Below.refl w.heap.size w) (.cells (stX s a) 31))
  have K0 := Lib.hid (Blk.new w 31 (stX s a))
  have L0 := st_load (Blk.new w 31 (stX s a))
  have GR := Lib.hid (fun W => great_any s a W)
  have MY := Lib.hid (fun W (hW : Below w.heap.size w W) => rMayS_any s a w.heap.size W (h.below hW) hW.size hb)
  rw [hbig] at GR
  rw [hm] at MY
  clear hbig hm h hb
  go_enter Try.func5, Try.ntmps5
  go_wp2_with fail
  refine (GR.out _).mono ?_
  rintro e w1 ⟨rfl, b1⟩
  have B1 := Lib.hid (btrans HB.out b1)
  have L1 := st_load (K0.out.below b1 (by simp))
  clear b1 L0
  go_wp2_with fail
  refine (MY.out _ B1.out).mono ?_
  rintro e w2 ⟨rfl, b2⟩
  have B2 := Lib.hid (btrans B1.out b2)
  clear b2 L1
  go_wp2_with fail
  refine (wakes21 _).mono ?_
  rintro e w9 ⟨rfl, b9⟩
  go_wp2_with fail
  go_ret
  exact ⟨rfl, btrans B2.out b9⟩
set_option maxRecDepth 100000 in
set_option maxHeartbeats 16000000 in
theorem cyng_yes (s : Sta) (a : Sad) (w : World) (h : StR w w.heap.size s a) (hb : StB s) (hbig : bigS s = false) (hm : mayS s = true) :
    Calls Try.prog 5 #[.agg (stX s a)] w fun e w' => e = .returned (.bool true) ∧ Below w.heap.size w w' := by

  have HB := Lib.hid (bal (Below.refl w.heap.size w) (.cells (stX s a) 31))
  have K0 := Lib.hid (Blk.new w 31 (stX s a))
  have L0 := st_load (Blk.new w 31 (stX s a))
  have GR := Lib.hid (fun W => great_any s a W)
  have MY := Lib.hid (fun W (hW : Below w.heap.size w W) => rMayS_any s a w.heap.size W (h.below hW) hW.size hb)
  have H := Lib.hid h
  have HM := Lib.hid hm
  rw [hbig] at GR
  rw [hm] at MY
  clear hbig hm h hb
  go_enter Try.func5, Try.ntmps5
  go_wp2_with fail
  refine (GR.out _).mono ?_
  rintro e w1 ⟨rfl, b1⟩
  have B1 := Lib.hid (btrans HB.out b1)
  have k1 := K0.out.below b1 (by simp)
  have K1 := Lib.hid k1
  have L1 := st_load k1
  clear b1 L0 k1
  go_wp2_with fail
  refine (MY.out _ B1.out).mono ?_
  rintro e w2 ⟨rfl, b2⟩
  have B2 := Lib.hid (btrans B1.out b2)
  have K2 := Lib.hid (K1.out.below b2 K1.out.lt)
  have L2 := st_load K2.out
  clear b2 L1

  obtain ⟨ys, hys⟩ : ∃ x, x = youngS s := ⟨_, rfl⟩
  have HYS := Lib.hid hys
  have Y0 := Lib.hid (cYoung_any s a w2 (H.out.up B2.out))
  rw [← hys] at Y0
  clear hys
  go_wp2_with fail
  refine Y0.out.mono ?_
  rintro e w3 ⟨c, rfl, r3, b3⟩
  obtain ⟨W4, st4, k4, b4, s4⟩ := bk_fresh (P := Try.prog) w3 31 #[.int .i64 0, .int .i8 0, .int .i64 0, .int .i64 0, .int .i64 0, .int .i64 0, .slice none 0 0, .slice none 0 0, .int .i64 0, .int .i8 0, .int .i64 0, .int .i64 0, .int .i64 0, .int .i64 0, .slice none 0 0, .slice none 0 0, .int .i64 0, .int .i8 0, .int .i64 0, .int .i64 0, .int .i64 0, .int .i64 0, .slice none 0 0, .slice none 0 0, .int .i64 0, .int .i64 0, .int .i64 0, .int .i64 0, .int .i64 0, .int .i64 0, .int .i64 0] (stX ys c) 31 infoSta rfl rfl (stX_one _ _)
  have K4 := Lib.hid k4
  have B24 := Lib.hid (b3.trans (b4.mono b3.size))
  have B4 := Lib.hid (B2.out.trans ((b3.trans (b4.mono b3.size)).mono B2.out.size))
  have R4 := Lib.hid (r3.up b4)
  have KS := Lib.hid (K2.out.below (b3.trans (b4.mono b3.size)) K2.out.lt)
  have x1 := st_tids KS.out
  have HLT := Lib.hid (show w.heap.size < w3.heap.size by have := K2.out.lt; have := b3.size; omega)
  clear k4 b4 s4 b3 r3
  go_wp2_with fail
  clear st4 x1 L2
  go_loopg [19] 3 (fun mm yK wq => ∃ (k : Nat), k ≤ 3 ∧ yK = .int .i64 k ∧ mm = 3 - k ∧ Below W4.heap.size W4 wq)
  case atStart => exact ⟨0, by omega, rfl, rfl, Below.refl _ _⟩
  case round =>
    obtain ⟨k, hk, rfl, hmm, hbw⟩ := hrel
    have HMM := Lib.hid hmm
    have BW' := Lib.hid hbw
    clear hmm hbw
    by_cases hlt : k < 3
    · have d3 : decide ((k : Int) < 3) = true := decide_eq_true (by omega)
      have i1 : (0 : Int) ≤ (k : Int) := by omega
      have i2 : (k : Int) < 3 := by omega
      have ix := st_index s a k hlt wr
      obtain ⟨W5, st5, k5, b5, s5⟩ := bk_fresh (P := Try.prog) wr 26 #[.int .i8 0, .int .i64 0, .int .i64 0, .int .i64 0, .int .i64 0, .slice none 0 0, .slice none 0 0, .int .i64 0] #[.int .i8 (s.tid k).st, .int .i64 (s.tid k).pid, .int .i64 (s.tid k).ep, .int .i64 (s.tid k).tm, .int .i64 (s.tid k).th, .slice (a.A k) (s.tid k).ps.length (a.c k), .slice (a.D k) (s.tid k).qs.length (a.e k), .int .i64 (s.tid k).ag] 8 infoCoS rfl rfl (by simp [Value.oneCell'])
      have B5 := Lib.hid (BW'.out.trans (b5.mono BW'.out.size))
      have KY := Lib.hid (K4.out.below B5.out K4.out.lt)
      have ld := st_tid KY.out k hlt
      rw [show ys.tid k = { s.tid k with ag := 0 } from by rw [HYS.out]; exact young_tid HM.out hlt] at ld
      dsimp only at ld
      obtain ⟨W6, st6, k6, b6, s6⟩ := bk_fresh (P := Try.prog) W5 26 #[.int .i8 0, .int .i64 0, .int .i64 0, .int .i64 0, .int .i64 0, .slice none 0 0, .slice none 0 0, .int .i64 0] #[.int .i8 (s.tid k).st, .int .i64 (s.tid k).pid, .int .i64 (s.tid k).ep, .int .i64 (s.tid k).tm, .int .i64 (s.tid k).th, .slice (c.A k) (s.tid k).ps.length (c.c k), .slice (c.D k) (s.tid k).qs.length (c.e k), .int .i64 0] 8 infoCoS rfl rfl (by simp [Value.oneCell'])
      have y7 := k6.cell 7
      have z7 := k6.frozen 7
      have C5 := Lib.hid (k5.below b6 k5.lt)
      have c7 := C5.out.cell 7
      have B6 := Lib.hid (B5.out.trans (b6.mono B5.out.size))
      have st7 := store_intS (s.tid k).ag y7 z7
      have k7 : Blk (W6.setCell ⟨W5.heap.size, 7, none⟩ (.int .i64 (s.tid k).ag)) W5.heap.size 26 #[.int .i8 (s.tid k).st, .int .i64 (s.tid k).pid, .int .i64 (s.tid k).ep, .int .i64 (s.tid k).tm, .int .i64 (s.tid k).th, .slice (c.A k) (s.tid k).ps.length (c.c k), .slice (c.D k) (s.tid k).qs.length (c.e k), .int .i64 (s.tid k).ag] := k6.set_ 7 (.int .i64 (s.tid k).ag)
      have l7 := bk_load (P := Try.prog) 8 k7 rfl
      have hne : wr.heap.size ≠ W5.heap.size := by rw [s5]; omega
      have m7 := bk_load (P := Try.prog) 8 (C5.out.far (p := ⟨W5.heap.size, 7, none⟩) hne (.int .i64 (s.tid k).ag)) rfl
      have B7 := Lib.hid (B6.out.setCell (p := ⟨W5.heap.size, 7, none⟩) B5.out.size (.int .i64 (s.tid k).ag))
      obtain ⟨W7, hW7⟩ : ∃ W, W = W6.setCell ⟨W5.heap.size, 7, none⟩ (.int .i64 (s.tid k).ag) := ⟨_, rfl⟩
      rw [← hW7] at B7
      have RA := Lib.hid (show CoR W7 W7.heap.size (s.tid k) (a.A k) (a.D k) from (H.out.up (B4.out.trans (B7.out.mono B4.out.size))) k hlt)
      have RC := Lib.hid (show CoR W7 W7.heap.size (s.tid k) (c.A k) (c.D k) from by
        have := (R4.out.up B7.out) k hlt
        rw [show ys.tid k = { s.tid k with ag := 0 } from by rw [HYS.out]; exact young_tid HM.out hlt] at this
        exact this)
      have SM := Lib.hid (rSame_any (s.tid k) (s.tid k) (a.A k) (a.D k) (a.c k) (a.e k) (c.A k) (c.D k) (c.c k) (c.e k) _ _ W7 RA.out RC.out (Nat.le_refl _) (Nat.le_refl _))
      rw [sameB_refl] at SM
      clear k5 b5 s5 k6 b6 s6 z7 k7 hne
      go_upto_region 11 with (fail)
      rw [← hW7] at l7 m7 ⊢
      clear st5 st6 st7 y7 c7 ix ld hW7
      go_wp2_with fail
      refine SM.out.mono ?_
      rintro e w8 ⟨rfl, b8⟩
      have B8 := Lib.hid (B7.out.trans (b8.mono B7.out.size))
      clear l7 m7 b8
      go_wp2_with fail
      go_roundg (gk - 1)
      case measure => have := HMM.out; omega
      case rel => exact ⟨k + 1, by omega, by go_num, by have := HMM.out; omega, B8.out⟩
    · obtain rfl : k = 3 := by omega
      have d3 : decide (((3 : Nat) : Int) < 3) = false := by decide
      have KW := Lib.hid (KS.out.below BW'.out KS.out.lt)
      have KY := Lib.hid (K4.out.below BW'.out K4.out.lt)
      have RY := Lib.hid (R4.out.up BW'.out)
      have SS := Lib.hid (fun W (hW : Below wr.heap.size wr W) => And.intro hW (And.intro (st_load (KY.out.below hW KY.out.lt)) (And.intro (st_made (KY.out.below hW KY.out.lt)) (And.intro (st_made (KW.out.below hW KW.out.lt)) (And.intro (st_grs (KY.out.below hW KY.out.lt)) (st_grs (KW.out.below hW KW.out.lt)))))))
      have em : ys.made = s.made := by rw [HYS.out]; exact young_made
      rw [em] at SS
      have eg := fun W => eqGr ys s W
      rw [show grsB ys s = true from by
        have e : ys.gr = s.gr := by rw [HYS.out]; exact young_gr
        unfold grsB
        rw [e]
        simp] at eg
      have CD := Lib.hid (fun W (hW : Below wr.heap.size wr W) => cDue_any ys c W (RY.out.up hW))
      rw [show dueS ys = [] from by rw [HYS.out]; exact young_due HM.out] at CD
      have CY := Lib.hid (fun W (hW : Below wr.heap.size wr W) => cYoung_any ys c W (RY.out.up hW))
      rw [show youngS ys = ys from by rw [HYS.out]; exact young_young HM.out] at CY
      have CS := Lib.hid (fun d W (hW : Below wr.heap.size wr W) (hd : StR W W.heap.size ys d) => rSameS_any ys ys d c _ _ W hd (RY.out.up hW) (Nat.le_refl _) (Nat.le_refl _))
      rw [sameS_refl] at CS
      clear em
      go_wp2_with fail
      go_region_held3 (fun W => Below wr.heap.size wr W ∧ (loadCells ⟨w3.heap.size, 0, none⟩ 31).run Try.prog W = .ok (stX ys c) W ∧ W.cell? ⟨w3.heap.size, 0, none⟩ = some (.int .i64 s.made) ∧ W.cell? ⟨w.heap.size, 0, none⟩ = some (.int .i64 s.made) ∧ (loadCells ⟨w3.heap.size, 25, none⟩ 6).run Try.prog W = .ok (grX ys) W ∧ (loadCells ⟨w.heap.size, 25, none⟩ 6).run Try.prog W = .ok (grX s) W)
        (first | exact SS.out _ (Below.refl _ _).drew | exact SS.out _ hb4 | exact SS.out _ hb3 | exact SS.out _ hb2 | exact SS.out _ hb1)
        (first
          | (go_at_call 18
             have hw0 : Below wr.heap.size wr _ := (by go_split_ands; assumption)
             refine (CD.out _ hw0).mono ?_
             rintro e v1 ⟨A7, n7, rfl, r7, k1⟩
             have hb1 := hw0.trans (k1.mono hw0.size)
             clear hw0 k1 r7)
          | (go_at_call 15
             have hw0 : Below wr.heap.size wr _ := (by go_split_ands; assumption)
             refine (CY.out _ hw0).mono ?_
             rintro e v2 ⟨d, rfl, r2, k2⟩
             have hb2 := hw0.trans (k2.mono hw0.size)
             have R2 := Lib.hid r2
             clear hw0 k2 r2)
          | (go_at_call 12
             have hw0 : Below wr.heap.size wr _ := (by go_split_ands; assumption)
             refine (CS.out _ _ hw0 R2.out).mono ?_
             rintro e v3 ⟨rfl, k3⟩
             have hb3 := hw0.trans (k3.mono hw0.size)
             clear hw0 k3)
          | (go_at_call 9
             have hw0 : Below wr.heap.size wr _ := (by go_split_ands; assumption)
             refine (wakes21 _).mono ?_
             rintro e v4 ⟨rfl, k4⟩
             have hb4 := hw0.trans (k4.mono hw0.size)
             clear hw0 k4))
      all_goals
        have BE := Lib.hid ((B4.out.trans (BW'.out.mono B4.out.size)).trans (hb4.mono (by have := B4.out.size; have := BW'.out.size; omega)))
        go_wp2_with fail
        go_ret
        exact ⟨rfl, BE.out⟩
end

theorem cyng_walk (s : Sta) (a : Sad) (w : World) (h : StRaw w s a) :
    Calls Try.prog 5 #[.agg (stX s a)] w fun e w' => e = .returned (.bool true) ∧ Below w.heap.size w w' := by
  cases hb : bigS s
  · cases hm : mayS s
    · exact cyng_not s a w (h.small hb) h.num hb hm
    · exact cyng_yes s a w (h.small hb) h.num hb hm
  · exact cyng_big s a w hb

end Go.Proofs.Ytagclnmchkgpdaa
namespace Go.Proofs.Ytagclnmchkgpdaa.clockYoung
open Go.ChangeShapes Go.WideShapes Go.ChangeAt Go.RowKit
open Go.ChangeMaps (open_string shut_string)
set_option linter.unusedVariables false

theorem own : ownKnob Try.prog.godebug = none := by kernel_rfl
theorem laidOut : laidOutB Try.prog = true := by kernel_rfl

set_option maxRecDepth 100000 in
theorem lifted (os : Os) (started : os.Started) (H : Type) (enc : TypeId × Value → H) :
    ReturnsInHanded {} Try.checked os 5 .any (Rows.clockYoungSpec.pre6 enc Try.prog Try.f5 Rows.clockYoungRow.domain false) (Rows.clockYoungSpec.post enc Try.prog Try.f5 false true false false) := by
  refine returnsInHanded_of_change_sized (C := Try.checked) own started (by kernel_rfl) Try.func5
    (ChangeSpec.witness6 (enc := enc) (C := Try.checked) false ⟨#[], #[.agg #[.int .i64 0, .int .i8 0, .int .i64 0, .int .i64 0, .int .i64 0, .int .i64 0, .slice none 0 0, .slice none 0 0, .int .i64 0, .int .i8 0, .int .i64 0, .int .i64 0, .int .i64 0, .int .i64 0, .slice none 0 0, .slice none 0 0, .int .i64 0, .int .i8 0, .int .i64 0, .int .i64 0, .int .i64 0, .int .i64 0, .slice none 0 0, .slice none 0 0, .int .i64 0, .int .i64 0, .int .i64 0, .int .i64 0, .int .i64 0, .int .i64 0, .int .i64 0]], []⟩ 8 (by kernel_rfl) (by kernel_rfl) (by kernel_rfl) (by kernel_rfl)) ?_
  intro W base args ds gs before hval0 hW hcnd hsz0 _
  have hval : ∀ (j : Nat) t v, Try.f5.params[j]? = some t → args[j]? = some v → Value.okWide Try.prog W .any base t v := hval0
  have hsz : (DataW.weightsEach Try.prog (Try.f5.params.toList ++ Rows.clockYoungSpec.plain.varTypes Try.prog) (ds ++ gs)).all (· ≤ reachBytes) = true := hsz0
  have hW' := hW
  obtain ⟨p, q, hA0, hV, rfl, hfz, hnd⟩ := hW
  have hA : DataW.TrodAll enc Try.prog W 0 (fun _ => true) true Try.f5.params.toList args.toList ds p := hA0
  rw [Try.params5] at hA hval hsz
  obtain ⟨v0, vs0, d0, ds0, p0, q0, hargs, rfl, rfl, h0, r0⟩ := trodAll_cons hA
  obtain ⟨rfl, rfl, rfl⟩ := trodAll_nil r0
  obtain rfl : args = #[v0] := by cases args; simp_all
  obtain ⟨rfl, rfl⟩ := trodVars_none hV
  have k0 := h0
  have lt0 : ∀ x ∈ p0, x.block < W.heap.size := by obtain ⟨m, hm⟩ := k0; exact DataW.trod_lt m _ _ _ hm
  obtain ⟨st0, sa0, rfl, sr0⟩ := open_st (hval 0 31 v0 rfl rfl) h0
  clear hA0 hval0
  refine (cyng_walk st0 sa0 W sr0).mono fun e W' ⟨he, bel⟩ => ?_
  subst he
  exact ⟨_, rfl, _, _, _, [], _, [], hW', trodAll_mk1 (shut_bool Try.underlying4 _), (trodAll_cons_mk (Below.trod laidOut (by kernel_rfl) (of_decide_eq_true (by kernel_rfl)) k0 bel lt0) trodAll_mk0), rfl, bel.frame _, fun h => by cases h⟩

theorem over : Rows.clockYoungRow.holds Try.pinned (OpenSpec.ofChange Rows.clockYoungSpec) :=
  OpenClaim.holds_of_wide 5 Try.f5 rfl rfl rfl rfl rfl rfl rfl ⟨rfl, rfl, rfl, rfl, rfl⟩ rfl rfl rfl rfl rfl (by kernel_rfl) Try.func5 (by kernel_rfl)
    (of_decide_eq_true (by kernel_rfl)) (by unfold Func.isWrapper; first | (rw [if_pos (by decide +kernel)]; kernel_rfl) | (rw [if_neg (by decide +kernel)]; exact ⟨rfl, rfl⟩))
    (fun os started H enc _ => lifted os started H enc)

theorem proved : Rows.ClockYoungSaid := over
end Go.Proofs.Ytagclnmchkgpdaa.clockYoung
