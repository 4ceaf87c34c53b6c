/-
  The statement ClockTells is proved: for every input the call returns true, and each argument reads as before. No condition.
  The statement ClockTells: its walk.
-/
import Derived.Test.YtagclnmchkgpdaaGrp18
import Derived.Deep.RegionHeldLaw
import Derived.Test.YtagclnmchkgpdaaGrp19
import Derived.Test.YtagclnmchkgpdaaGrp02
import Derived.Test.YtagclnmchkgpdaaRows
set_option linter.unusedVariables false
set_option linter.unusedSimpArgs false
namespace Go.Proofs.Ytagclnmchkgpdaa
open Go.RowKit
section
attribute [-go_sem] loadCells storeVar
set_option maxRecDepth 100000 in
set_option maxHeartbeats 8000000 in
theorem ctell_big (s : Sta) (a : Sad) (t : Int) (w : World) (hbig : bigS s = true) :
    Calls Try.prog 3 #[.agg (stX s a), .int .i64 t] w fun e w' => e = .returned (.bool true) ∧ Below w.heap.size w w' := by
  have HB := Lib.hid (bal (Below.refl w.heap.size w) (.cells (stX s a) 31))
  have L0 := st_load (Blk.new w 31 (stX s a))
  have GR := Lib.hid (fun W => great_any s a W)
  rw [hbig] at GR
  clear hbig
  go_enter Try.func3, Try.ntmps3
  go_wp2_with fail
  refine (GR.out _).mono ?_
  rintro e w1 ⟨rfl, b1⟩
  have B1 := Lib.hid (btrans HB.out b1)
  clear b1 L0
  go_wp2_with fail
  refine (wakes21 _).mono ?_
  rintro e w9 ⟨rfl, b9⟩
  go_wp2_with fail
  go_ret
  exact ⟨rfl, btrans B1.out b9⟩
set_option maxRecDepth 100000 in
set_option maxHeartbeats 16000000 in
theorem ctell_small (s : Sta) (a : Sad) (t : Int) (w : World) (h : StR w w.heap.size s a) (hb : StB s) (hbig : bigS s = false) :
    Calls Try.prog 3 #[.agg (stX s a), .int .i64 t] w fun e w' => e = .returned (.bool true) ∧ Below w.heap.size w w' := by
  have HB := Lib.hid (bal (Below.refl w.heap.size w) (.cells (stX s a) 31))
  have K0 := Lib.hid (Blk.new w 31 (stX s a))
  have L0 := st_load (Blk.new w 31 (stX s a))
  have GR := Lib.hid (fun W => great_any s a W)
  have H := Lib.hid h
  have HSB := Lib.hid hb
  rw [hbig] at GR
  clear hbig h hb
  go_enter Try.func3, Try.ntmps3
  go_wp2_with fail
  refine (GR.out _).mono ?_
  rintro e w1 ⟨rfl, b1⟩
  have B1 := Lib.hid (btrans HB.out b1)
  have k1 := K0.out.below b1 (by simp)
  have K1 := Lib.hid k1
  have L1 := st_load k1
  have O1 := Lib.hid (cOld_any s a w1)
  obtain ⟨z, hz⟩ : ∃ z : Int, z = ((oldF s 3).getD 0 : Nat) := ⟨_, rfl⟩
  obtain ⟨q, hq⟩ : ∃ q, q = (oldF s 3).isSome := ⟨_, rfl⟩
  have O2 := Lib.hid (fun W => rOld_any s a W)
  rw [← hz, ← hq] at O1 O2
  clear b1 L0 k1 hz hq
  go_wp2_with fail
  refine O1.out.mono ?_
  rintro e w2 ⟨rfl, b2⟩
  have B2 := Lib.hid (btrans B1.out b2)
  have k2 := K1.out.below b2 K1.out.lt
  have K2 := Lib.hid k2
  have L2 := st_load k2
  clear b2 k2 L1
  go_wp2_with fail
  refine (O2.out _).mono ?_
  rintro e w3 ⟨rfl, b3⟩
  have B3 := Lib.hid (btrans B2.out b3)
  have K3 := Lib.hid (K2.out.below b3 K2.out.lt)
  have H3 := Lib.hid (H.out.up (btrans B2.out b3))
  clear b3 L2
  obtain ⟨ts, hts⟩ : ∃ x, x = tickS s := ⟨_, rfl⟩
  obtain ⟨ys, hys⟩ : ∃ x, x = youngS s := ⟨_, rfl⟩
  obtain ⟨ds, hds⟩ : ∃ x, x = dueS s := ⟨_, rfl⟩
  obtain ⟨lf, hlf⟩ : ∃ x, x = leftS s t := ⟨_, rfl⟩
  have hdl : ds.length ≤ 1000000 := by
    rw [hds]; unfold dueS
    split
    · have := dueL_len s 3; omega
    · exact Nat.zero_le _
  have HDL := Lib.hid hdl
  have C1 := Lib.hid (fun W (hW : Below w3.heap.size w3 W) => cTick_any s a W (H3.out.up hW))
  have C2 := Lib.hid (fun W (hW : Below w3.heap.size w3 W) => rTickS_any s a W (H3.out.up hW) HSB.out)
  have C4 := Lib.hid (fun W (hW : Below w3.heap.size w3 W) => cYoung_any s a W (H3.out.up hW))
  have C5 := Lib.hid (fun W (hW : Below w3.heap.size w3 W) => rYoungS_any s a W (H3.out.up hW) HSB.out)
  have C7 := Lib.hid (fun W (hW : Below w3.heap.size w3 W) => cDue_any s a W (H3.out.up hW))
  have C8 := Lib.hid (fun W (hW : Below w3.heap.size w3 W) => rDueS_any s a W (H3.out.up hW) HSB.out)
  have CA := Lib.hid (fun W (hW : Below w3.heap.size w3 W) => cLeft_any s a t W (H3.out.up hW))
  have CB := Lib.hid (fun W (hW : Below w3.heap.size w3 W) => rLeft_any s a t W (H3.out.up hW) HSB.out)
  rw [← hts] at C1 C2
  rw [← hys] at C4 C5
  rw [← hds] at C7 C8
  rw [← hlf] at CA CB
  clear hts hys hds hlf hdl
  have SS := Lib.hid (fun W (hW : Below w3.heap.size w3 W) => And.intro hW (st_load (K3.out.below hW K3.out.lt)))
  go_wp2_with fail
  first | go_region_held_law (fun W => Below w3.heap.size w3 W ∧ (loadCells ⟨w.heap.size, 0, none⟩ 31).run Try.prog W = .ok (stX s a) W)
    (first | exact SS.out _ (Below.refl _ _).drew | exact SS.out _ hbC | exact SS.out _ hbB | exact SS.out _ hbA | exact SS.out _ hb9 | exact SS.out _ hb8 | exact SS.out _ hb7 | exact SS.out _ hb6 | exact SS.out _ hb5 | exact SS.out _ hb4 | exact SS.out _ hb3 | exact SS.out _ hb2 | exact SS.out _ hb1)
    (first
      | (go_at_call 12
         have hw0 : Below w3.heap.size w3 _ := (by go_split_ands; assumption)
         refine (rSameS_any ys ys c4 c5 _ _ _ R4'.out R5.out (Nat.le_refl _) (Nat.le_refl _)).mono ?_
         rw [sameS_refl]
         rintro e v6 ⟨rfl, k6⟩
         have hb6 := hw0.trans (k6.mono hw0.size)
         clear hw0 k6)
      | (go_at_call 13
         have hw0 : Below w3.heap.size w3 _ := (by go_split_ands; assumption)
         refine (C1.out _ hw0).mono ?_
         rintro e v1 ⟨c1, rfl, r1, k1⟩
         have hb1 := hw0.trans (k1.mono hw0.size)
         have R1 := Lib.hid r1
         clear hw0 k1 r1)
      | (go_at_call 14
         have hw0 : Below w3.heap.size w3 _ := (by go_split_ands; assumption)
         refine (C2.out _ hw0).mono ?_
         rintro e v2 ⟨c2, rfl, r2, k2⟩
         have hb2 := hw0.trans (k2.mono hw0.size)
         have R1' := Lib.hid (R1.out.up k2)
         have R2 := Lib.hid r2
         clear hw0 k2 r2)
      | (go_at_call 12
         have hw0 : Below w3.heap.size w3 _ := (by go_split_ands; assumption)
         refine (rSameS_any ts ts c1 c2 _ _ _ R1'.out R2.out (Nat.le_refl _) (Nat.le_refl _)).mono ?_
         rw [sameS_refl]
         rintro e v3 ⟨rfl, k3⟩
         have hb3 := hw0.trans (k3.mono hw0.size)
         clear hw0 k3)
      | (go_at_call 15
         have hw0 : Below w3.heap.size w3 _ := (by go_split_ands; assumption)
         refine (C4.out _ hw0).mono ?_
         rintro e v4 ⟨c4, rfl, r4, k4⟩
         have hb4 := hw0.trans (k4.mono hw0.size)
         have R4 := Lib.hid r4
         clear hw0 k4 r4)
      | (go_at_call 16
         have hw0 : Below w3.heap.size w3 _ := (by go_split_ands; assumption)
         refine (C5.out _ hw0).mono ?_
         rintro e v5 ⟨c5, rfl, r5, k5⟩
         have hb5 := hw0.trans (k5.mono hw0.size)
         have R4' := Lib.hid (R4.out.up k5)
         have R5 := Lib.hid r5
         clear hw0 k5 r5)
      | (go_at_call 18
         have hw0 : Below w3.heap.size w3 _ := (by go_split_ands; assumption)
         refine (C7.out _ hw0).mono ?_
         rintro e v7 ⟨A7, n7, rfl, r7, k7⟩
         have hb7 := hw0.trans (k7.mono hw0.size)
         have R7 := Lib.hid r7
         clear hw0 k7 r7)
      | (go_at_call 19
         have hw0 : Below w3.heap.size w3 _ := (by go_split_ands; assumption)
         refine (C8.out _ hw0).mono ?_
         rintro e v8 ⟨A8, n8, rfl, r8, k8⟩
         have hb8 := hw0.trans (k8.mono hw0.size)
         have R7' := Lib.hid ((R7.out.below k8).more k8.size)
         have R8 := Lib.hid r8
         clear hw0 k8 r8)
      | (go_at_call 17
         have hw0 : Below w3.heap.size w3 _ := (by go_split_ands; assumption)
         refine (Ints_any ds ds A7 A8 n7 n8 _ _ _ R7'.out R8.out (Nat.le_refl _) (Nat.le_refl _) HDL.out).mono ?_
         rw [decide_eq_true rfl]
         rintro e v9 ⟨rfl, k9⟩
         have hb9 := hw0.trans (k9.mono hw0.size)
         clear hw0 k9)
      | (go_at_call 20
         have hw0 : Below w3.heap.size w3 _ := (by go_split_ands; assumption)
         refine (CA.out _ hw0).mono ?_
         rintro e vA ⟨rfl, kA⟩
         have hbA := hw0.trans (kA.mono hw0.size)
         clear hw0 kA)
      | (go_at_call 21
         have hw0 : Below w3.heap.size w3 _ := (by go_split_ands; assumption)
         refine (CB.out _ hw0).mono ?_
         rintro e vB ⟨rfl, kB⟩
         have hbB := hw0.trans (kB.mono hw0.size)
         clear hw0 kB)
      | (go_at_call 9
         have hw0 : Below w3.heap.size w3 _ := (by go_split_ands; assumption)
         refine (wakes21 _).mono ?_
         rintro e vC ⟨rfl, kC⟩
         have hbC := hw0.trans (kC.mono hw0.size)
         clear hw0 kC)) | fail
  all_goals
    have BC := Lib.hid (B3.out.trans (hbC.mono B3.out.size))
    go_wp2_with fail
    go_ret
    exact ⟨rfl, BC.out⟩
end
theorem ctell_walk (s : Sta) (a : Sad) (t : Int) (w : World) (h : StRaw w s a) :
    Calls Try.prog 3 #[.agg (stX s a), .int .i64 t] w fun e w' => e = .returned (.bool true) ∧ Below w.heap.size w w' := by
  cases hb : bigS s
  · exact ctell_small s a t w (h.small hb) h.num hb
  · exact ctell_big s a t w hb
end Go.Proofs.Ytagclnmchkgpdaa
namespace Go.Proofs.Ytagclnmchkgpdaa.clockTells
open Go.ChangeShapes Go.WideShapes Go.ChangeAt Go.RowKit
open Go.ChangeMaps (open_string shut_string)
set_option linter.unusedVariables false

theorem own : ownKnob Try.prog.godebug = none := by kernel_rfl
theorem laidOut : laidOutB Try.prog = true := by kernel_rfl

set_option maxRecDepth 100000 in
theorem lifted (os : Os) (started : os.Started) (H : Type) (enc : TypeId × Value → H) :
    ReturnsInHanded {} Try.checked os 3 .any (Rows.clockTellsSpec.pre6 enc Try.prog Try.f3 Rows.clockTellsRow.domain false) (Rows.clockTellsSpec.post enc Try.prog Try.f3 false true false false) := by
  refine returnsInHanded_of_change_sized (C := Try.checked) own started (by kernel_rfl) Try.func3
    (ChangeSpec.witness6 (enc := enc) (C := Try.checked) false ⟨#[], #[.agg #[.int .i64 0, .int .i8 0, .int .i64 0, .int .i64 0, .int .i64 0, .int .i64 0, .slice none 0 0, .slice none 0 0, .int .i64 0, .int .i8 0, .int .i64 0, .int .i64 0, .int .i64 0, .int .i64 0, .slice none 0 0, .slice none 0 0, .int .i64 0, .int .i8 0, .int .i64 0, .int .i64 0, .int .i64 0, .int .i64 0, .slice none 0 0, .slice none 0 0, .int .i64 0, .int .i64 0, .int .i64 0, .int .i64 0, .int .i64 0, .int .i64 0, .int .i64 0], .int .i64 0], []⟩ 8 (by kernel_rfl) (by kernel_rfl) (by kernel_rfl) (by kernel_rfl)) ?_
  intro W base args ds gs before hval0 hW hcnd hsz0 _
  have hval : ∀ (j : Nat) t v, Try.f3.params[j]? = some t → args[j]? = some v → Value.okWide Try.prog W .any base t v := hval0
  have hsz : (DataW.weightsEach Try.prog (Try.f3.params.toList ++ Rows.clockTellsSpec.plain.varTypes Try.prog) (ds ++ gs)).all (· ≤ reachBytes) = true := hsz0
  have hW' := hW
  obtain ⟨p, q, hA0, hV, rfl, hfz, hnd⟩ := hW
  have hA : DataW.TrodAll enc Try.prog W 0 (fun _ => true) true Try.f3.params.toList args.toList ds p := hA0
  rw [Try.params3] at hA hval hsz
  obtain ⟨v0, vs0, d0, ds0, p0, q0, hargs, rfl, rfl, h0, r0⟩ := trodAll_cons hA
  obtain ⟨v1, vs1, d1, ds1, p1, q1, rfl, rfl, rfl, h1, r1⟩ := trodAll_cons r0
  obtain ⟨rfl, rfl, rfl⟩ := trodAll_nil r1
  obtain rfl : args = #[v0, v1] := by cases args; simp_all
  obtain ⟨rfl, rfl⟩ := trodVars_none hV
  have k0 := h0
  have lt0 : ∀ x ∈ p0, x.block < W.heap.size := by obtain ⟨m, hm⟩ := k0; exact DataW.trod_lt m _ _ _ hm
  obtain ⟨st0, sa0, rfl, sr0⟩ := open_st (hval 0 31 v0 rfl rfl) h0
  obtain ⟨a1, rfl, rfl, rfl, w1⟩ := open_int Try.underlying3 (hval 1 3 v1 rfl rfl) h1
  clear hA0 hval0
  refine (ctell_walk st0 sa0 a1 W sr0).mono fun e W' ⟨he, bel⟩ => ?_
  subst he
  exact ⟨_, rfl, _, _, _, [], _, [], hW', trodAll_mk1 (shut_bool Try.underlying4 _), (trodAll_cons_mk (Below.trod laidOut (by kernel_rfl) (of_decide_eq_true (by kernel_rfl)) k0 bel lt0) (trodAll_cons_mk (shut_int Try.underlying3 w1) trodAll_mk0)), rfl, bel.frame _, fun h => by cases h⟩

theorem over : Rows.clockTellsRow.holds Try.pinned (OpenSpec.ofChange Rows.clockTellsSpec) :=
  OpenClaim.holds_of_wide 3 Try.f3 rfl rfl rfl rfl rfl rfl rfl ⟨rfl, rfl, rfl, rfl, rfl⟩ rfl rfl rfl rfl rfl (by kernel_rfl) Try.func3 (by kernel_rfl)
    (of_decide_eq_true (by kernel_rfl)) (by unfold Func.isWrapper; first | (rw [if_pos (by decide +kernel)]; kernel_rfl) | (rw [if_neg (by decide +kernel)]; exact ⟨rfl, rfl⟩))
    (fun os started H enc _ => lifted os started H enc)

theorem proved : Rows.ClockTellsSaid := over
end Go.Proofs.Ytagclnmchkgpdaa.clockTells
