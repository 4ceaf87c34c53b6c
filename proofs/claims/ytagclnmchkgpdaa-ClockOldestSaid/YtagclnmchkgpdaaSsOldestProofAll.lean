/-
  The statement ClockOldest is proved: for every input the call returns true, and each argument reads as before. No condition.
  The statement ClockOldest: its walk.
-/
import Derived.Test.YtagclnmchkgpdaaGrp18
import Derived.Test.YtagclnmchkgpdaaGrp19
import Derived.Test.YtagclnmchkgpdaaGrp02
import Derived.Test.YtagclnmchkgpdaaRows
set_option linter.unusedVariables false
set_option linter.unusedSimpArgs false
namespace Go.Proofs.Ytagclnmchkgpdaa
open Go.RowKit
theorem old_none (s : Sta) : ∀ k, oldF s k = none → ∀ i, i < k → (s.tid i).st ≠ 2
  | 0, _, i, hi => by omega
  | k + 1, h, i, hi => by
    unfold oldF at h
    by_cases h2 : ((s.tid k).st == 2) = true
    · rw [if_pos h2] at h
      unfold oldStep at h
      split at h
      · cases h
      · split at h <;> cases h
    · rw [if_neg h2] at h
      rcases Nat.lt_succ_iff_lt_or_eq.1 hi with h3 | h3
      · exact old_none s k h i h3
      · rw [h3]; exact fun e => h2 (by rw [e]; rfl)
theorem old_some (s : Sta) : ∀ k y, oldF s k = some y → y < k ∧ (s.tid y).st = 2 ∧ ∀ i, i < k → (s.tid i).st = 2 → (s.tid i).ag ≤ (s.tid y).ag ∧ ((s.tid i).ag = (s.tid y).ag → y ≤ i)
  | 0, y, h => by cases h
  | k + 1, y, h => by
    unfold oldF at h
    by_cases h2 : ((s.tid k).st == 2) = true
    · rw [if_pos h2] at h
      have hk : (s.tid k).st = 2 := by simpa using h2
      cases hq : oldF s k with
      | none =>
        rw [hq] at h
        injection h with h
        subst h
        refine ⟨Nat.lt_succ_self _, hk, fun i hi hi2 => ?_⟩
        rcases Nat.lt_succ_iff_lt_or_eq.1 hi with h3 | h3
        · exact absurd hi2 (old_none s k hq i h3)
        · rw [h3]; exact ⟨Int.le_refl _, fun _ => Nat.le_refl _⟩
      | some z =>
        rw [hq] at h
        obtain ⟨a1, a2, a3⟩ := old_some s k z hq
        unfold oldStep at h
        simp only at h
        by_cases hlt : (s.tid z).ag < (s.tid k).ag
        · rw [if_pos hlt] at h
          injection h with h
          subst h
          refine ⟨Nat.lt_succ_self _, hk, fun i hi hi2 => ?_⟩
          rcases Nat.lt_succ_iff_lt_or_eq.1 hi with h3 | h3
          · have := (a3 i h3 hi2).1
            exact ⟨by omega, fun e => by omega⟩
          · rw [h3]; exact ⟨Int.le_refl _, fun _ => Nat.le_refl _⟩
        · rw [if_neg hlt] at h
          injection h with h
          subst h
          refine ⟨Nat.lt_succ_of_lt a1, a2, fun i hi hi2 => ?_⟩
          rcases Nat.lt_succ_iff_lt_or_eq.1 hi with h3 | h3
          · exact a3 i h3 hi2
          · rw [h3]; exact ⟨by omega, fun _ => by omega⟩
    · rw [if_neg h2] at h
      obtain ⟨a1, a2, a3⟩ := old_some s k y h
      refine ⟨Nat.lt_succ_of_lt a1, a2, fun i hi hi2 => ?_⟩
      rcases Nat.lt_succ_iff_lt_or_eq.1 hi with h3 | h3
      · exact a3 i h3 hi2
      · exact absurd (by rw [← h3, hi2]; rfl) h2
def ongB (s : Sta) (k : Nat) : Bool := (List.range k).any fun j => (s.tid j).st == 2
theorem ongB_succ (s : Sta) (k : Nat) : ongB s (k + 1) = (ongB s k || ((s.tid k).st == 2)) := by
  unfold ongB
  rw [List.range_succ, List.any_append]
  simp
theorem ong_old (s : Sta) (k : Nat) : ongB s k = (oldF s k).isSome := by
  cases hq : oldF s k with
  | none =>
    show ongB s k = false
    unfold ongB
    rw [List.any_eq_false]
    exact fun i hi => by simpa using old_none s k hq i (List.mem_range.1 hi)
  | some y =>
    show ongB s k = true
    unfold ongB
    rw [List.any_eq_true]
    obtain ⟨a1, a2, _⟩ := old_some s k y hq
    exact ⟨y, List.mem_range.2 a1, by rw [a2]; rfl⟩
section
attribute [-go_sem] loadCells storeVar
set_option maxRecDepth 100000 in
set_option maxHeartbeats 8000000 in
theorem cold_big (s : Sta) (a : Sad) (w : World) (hbig : bigS s = true) :
    Calls Try.prog 6 #[.agg (stX s a)] w fun e w' => e = .returned (.bool true) ∧ Below w.heap.size w w' := by
  have HB := Lib.hid (bal (Below.refl w.heap.size w) (.cells (stX s a) 31))
  have L0 := st_load (Blk.new w 31 (stX s a))
  have GR := Lib.hid (fun W => great_any s a W)
  rw [hbig] at GR
  clear hbig
  go_enter Try.func6, Try.ntmps6
  go_wp2_with fail
  refine (GR.out _).mono ?_
  rintro e w1 ⟨rfl, b1⟩
  have B1 := Lib.hid (btrans HB.out b1)
  clear b1 L0
  go_wp2_with fail
  refine (wakes21 _).mono ?_
  rintro e w9 ⟨rfl, b9⟩
  go_wp2_with fail
  go_ret
  exact ⟨rfl, btrans B1.out b9⟩
set_option maxRecDepth 100000 in
set_option maxHeartbeats 16000000 in
theorem cold_small (s : Sta) (a : Sad) (w : World) (hbig : bigS s = false) :
    Calls Try.prog 6 #[.agg (stX s a)] w fun e w' => e = .returned (.bool true) ∧ Below w.heap.size w w' := by
  have HB := Lib.hid (bal (Below.refl w.heap.size w) (.cells (stX s a) 31))
  have K0 := Lib.hid (Blk.new w 31 (stX s a))
  have L0 := st_load (Blk.new w 31 (stX s a))
  have GR := Lib.hid (fun W => great_any s a W)
  rw [hbig] at GR
  clear hbig
  go_enter Try.func6, Try.ntmps6
  go_wp2_with fail
  refine (GR.out _).mono ?_
  rintro e w1 ⟨rfl, b1⟩
  have B1 := Lib.hid (btrans HB.out b1)
  have k1 := K0.out.below b1 (by simp)
  have K1 := Lib.hid k1
  have L1 := st_load k1
  obtain ⟨q, hq⟩ : ∃ q, q = oldF s 3 := ⟨_, rfl⟩
  have O1 := Lib.hid (cOld_any s a w1)
  rw [← hq] at O1
  have HQ := Lib.hid hq
  clear b1 L0 k1 hq
  go_wp2_with fail
  refine O1.out.mono ?_
  rintro e w2 ⟨rfl, b2⟩
  have B2 := Lib.hid (btrans B1.out b2)
  have K2 := Lib.hid (K1.out.below b2 K1.out.lt)
  have x1 := st_tids K2.out
  clear b2 L1
  cases q with
  | none =>
    have HNO := Lib.hid (old_none s 3 HQ.out.symm)
    go_wp2_with fail
    clear x1
    go_loopg [5, 18] 3 (fun mm yS yK wq => ∃ (k : Nat), k ≤ 3 ∧ yK = .int .i64 k ∧ yS = .bool false ∧ mm = 3 - k ∧ Below w2.heap.size w2 wq)
    case atStart => exact ⟨0, by omega, rfl, rfl, rfl, Below.refl _ _⟩
    case round =>
      obtain ⟨k, hk, rfl, rfl, hmm, hbw⟩ := hrel
      have HMM := Lib.hid hmm
      have BW' := Lib.hid hbw
      clear hmm hbw
      by_cases hlt : k < 3
      · have d3 : decide ((k : Int) < 3) = true := decide_eq_true (by omega)
        have ix := st_index s a k hlt wr
        obtain ⟨W2, st2, k2, b2, s2⟩ := bk_fresh (P := Try.prog) wr 26 #[.int .i8 0, .int .i64 0, .int .i64 0, .int .i64 0, .int .i64 0, .slice none 0 0, .slice none 0 0, .int .i64 0] #[.int .i8 (s.tid k).st, .int .i64 (s.tid k).pid, .int .i64 (s.tid k).ep, .int .i64 (s.tid k).tm, .int .i64 (s.tid k).th, .slice (a.A k) (s.tid k).ps.length (a.c k), .slice (a.D k) (s.tid k).qs.length (a.e k), .int .i64 (s.tid k).ag] 8 infoCoS rfl rfl (by simp [Value.oneCell'])
        have y0 := k2.cell 0
        have B3 := Lib.hid (BW'.out.trans (b2.mono BW'.out.size))
        have n2 : ((s.tid k).st != 2) = true := by have := HNO.out k hlt; simpa using this
        clear k2 b2 s2
        go_wp2_with fail
        go_roundg (gk - 1)
        case measure => have := HMM.out; omega
        case rel => exact ⟨k + 1, by omega, by go_num, rfl, by have := HMM.out; omega, B3.out⟩
      · obtain rfl : k = 3 := by omega
        have d3 : decide (((3 : Nat) : Int) < 3) = false := by decide
        go_wp2_with fail
        refine (wakes21 _).mono ?_
        rintro e w9 ⟨rfl, b9⟩
        go_wp2_with fail
        go_ret
        exact ⟨rfl, btrans (B2.out.trans (BW'.out.mono B2.out.size)) b9⟩
  | some y =>
    obtain ⟨hy3, hy2, hyi⟩ := old_some s 3 y HQ.out.symm
    have HYI := Lib.hid hyi
    have HOB := Lib.hid (show ongB s 3 = true by rw [ong_old, ← HQ.out]; rfl)
    have yn : ((s.tid y).st != 2) = false := by rw [hy2]; rfl
    have y1 : (0 : Int) ≤ (y : Int) := by omega
    have y2 : (y : Int) < 3 := by omega
    have y3 : decide ((y : Int) < 0) = false := decide_eq_false (by omega)
    have y4 : decide ((3 : Int) ≤ (y : Int)) = false := decide_eq_false (by omega)
    clear hy2 hyi
    go_wp2_with fail
    clear x1
    go_loopg [5, 18] 3 (fun mm yS yK wq => ∃ (k : Nat), k ≤ 3 ∧ yK = .int .i64 k ∧ yS = .bool (ongB s k) ∧ mm = 3 - k ∧ Below w2.heap.size w2 wq)
    case atStart => exact ⟨0, by omega, rfl, rfl, rfl, Below.refl _ _⟩
    case round =>
      obtain ⟨k, hk, rfl, rfl, hmm, hbw⟩ := hrel
      have HMM := Lib.hid hmm
      have BW' := Lib.hid hbw
      clear hmm hbw
      by_cases hlt : k < 3
      · have d3 : decide ((k : Int) < 3) = true := decide_eq_true (by omega)
        have ix := st_index s a k hlt wr
        obtain ⟨W2, st2, k2, b2, s2⟩ := bk_fresh (P := Try.prog) wr 26 #[.int .i8 0, .int .i64 0, .int .i64 0, .int .i64 0, .int .i64 0, .slice none 0 0, .slice none 0 0, .int .i64 0] #[.int .i8 (s.tid k).st, .int .i64 (s.tid k).pid, .int .i64 (s.tid k).ep, .int .i64 (s.tid k).tm, .int .i64 (s.tid k).th, .slice (a.A k) (s.tid k).ps.length (a.c k), .slice (a.D k) (s.tid k).qs.length (a.e k), .int .i64 (s.tid k).ag] 8 infoCoS rfl rfl (by simp [Value.oneCell'])
        have z0 := k2.cell 0
        have KC := Lib.hid k2
        have B3 := Lib.hid (BW'.out.trans (b2.mono BW'.out.size))
        have KS := Lib.hid (K2.out.below B3.out K2.out.lt)
        clear k2 b2 s2
        by_cases h2 : (s.tid k).st = 2
        · have n2 : ((s.tid k).st != 2) = false := by rw [h2]; rfl
          have HON := Lib.hid (show ongB s (k + 1) = true by rw [ongB_succ, h2]; simp)
          have hyk := HYI.out k hlt h2
          have g1 : decide ((s.tid y).ag < (s.tid k).ag) = false := decide_eq_false (by omega)
          obtain ⟨u, hu⟩ : ∃ u, ((s.tid k).ag == (s.tid y).ag) = u := ⟨_, rfl⟩
          have g2 : u = true → decide ((k : Int) < (y : Int)) = false := fun h => decide_eq_false (by
            rw [h] at hu
            have := hyk.2 (by simpa using hu)
            omega)
          have c7 : ∀ n : BW W2.heap.size W2, n.1.cell? ⟨wr.heap.size, 7, none⟩ = some (.int .i64 (s.tid k).ag) := fun n => (KC.out.below n.2 KC.out.lt).cell 7
          have s0 : ∀ n : BW W2.heap.size W2, n.1.cell? ⟨w.heap.size, 1 + y * 8, none⟩ = some (.int .i8 (s.tid y).st) := fun n => st_cell (KS.out.below n.2 KS.out.lt) y hy3 (j := 0) rfl
          have s7 : ∀ n : BW W2.heap.size W2, n.1.cell? ⟨w.heap.size, 1 + y * 8 + 7, none⟩ = some (.int .i64 (s.tid y).ag) := fun n => st_cell (KS.out.below n.2 KS.out.lt) y hy3 (j := 7) rfl
          clear h2 hyk
          cases u
          · clear g2
            go_wp2_with fail
            refine wp_region_bq W2.heap.size (by kernel_rfl) (by kernel_rfl) ?_
            repeat (go_big_quiet_step (fail))
            refine wpQuiet_nil ?_
            rintro _ ⟨n, rfl⟩
            have BN := Lib.hid n.2
            clear c7 s0 s7
            go_wp2_with fail
            go_roundg (gk - 1)
            case measure => have := HMM.out; omega
            case rel => exact ⟨k + 1, by omega, by go_num, by rw [HON.out], by have := HMM.out; omega, B3.out.trans (BN.out.mono B3.out.size)⟩
          · have g3 := g2 rfl
            have g4 : decide (k < y) = false := decide_eq_false (by have := of_decide_eq_false g3; omega)
            have g5 : ¬ k < y := by have := of_decide_eq_false g3; omega
            clear g2
            go_wp2_with fail
            refine wp_region_bq W2.heap.size (by kernel_rfl) (by kernel_rfl) ?_
            repeat (go_big_quiet_step (fail))
            refine wpQuiet_nil ?_
            rintro _ ⟨n, rfl⟩
            have BN := Lib.hid n.2
            clear c7 s0 s7
            go_wp2_with fail
            go_roundg (gk - 1)
            case measure => have := HMM.out; omega
            case rel => exact ⟨k + 1, by omega, by go_num, by rw [HON.out], by have := HMM.out; omega, B3.out.trans (BN.out.mono B3.out.size)⟩
        · have n2 : ((s.tid k).st != 2) = true := by simpa using h2
          have HON := Lib.hid (show ongB s (k + 1) = ongB s k by
            rw [ongB_succ, show ((s.tid k).st == 2) = false by simpa using h2, Bool.or_false])
          clear h2
          go_wp2_with fail
          go_roundg (gk - 1)
          case measure => have := HMM.out; omega
          case rel => exact ⟨k + 1, by omega, by go_num, by rw [HON.out], by have := HMM.out; omega, B3.out⟩
      · obtain rfl : k = 3 := by omega
        have d3 : decide (((3 : Nat) : Int) < 3) = false := by decide
        rw [HOB.out]
        go_wp2_with fail
        refine (wakes21 _).mono ?_
        rintro e w9 ⟨rfl, b9⟩
        go_wp2_with fail
        go_ret
        exact ⟨rfl, btrans (B2.out.trans (BW'.out.mono B2.out.size)) b9⟩
end
theorem cold_walk (s : Sta) (a : Sad) (w : World) :
    Calls Try.prog 6 #[.agg (stX s a)] w fun e w' => e = .returned (.bool true) ∧ Below w.heap.size w w' := by
  cases hb : bigS s
  · exact cold_small s a w hb
  · exact cold_big s a w hb
end Go.Proofs.Ytagclnmchkgpdaa
namespace Go.Proofs.Ytagclnmchkgpdaa.clockOldest
open Go.ChangeShapes Go.WideShapes Go.ChangeAt Go.RowKit
open Go.ChangeMaps (open_string shut_string)
set_option linter.unusedVariables false

theorem own : ownKnob Try.prog.godebug = none := by kernel_rfl
theorem laidOut : laidOutB Try.prog = true := by kernel_rfl

set_option maxRecDepth 100000 in
theorem lifted (os : Os) (started : os.Started) (H : Type) (enc : TypeId × Value → H) :
    ReturnsInHanded {} Try.checked os 6 .any (Rows.clockOldestSpec.pre6 enc Try.prog Try.f6 Rows.clockOldestRow.domain false) (Rows.clockOldestSpec.post enc Try.prog Try.f6 false true false false) := by
  refine returnsInHanded_of_change_sized (C := Try.checked) own started (by kernel_rfl) Try.func6
    (ChangeSpec.witness6 (enc := enc) (C := Try.checked) false ⟨#[], #[.agg #[.int .i64 0, .int .i8 0, .int .i64 0, .int .i64 0, .int .i64 0, .int .i64 0, .slice none 0 0, .slice none 0 0, .int .i64 0, .int .i8 0, .int .i64 0, .int .i64 0, .int .i64 0, .int .i64 0, .slice none 0 0, .slice none 0 0, .int .i64 0, .int .i8 0, .int .i64 0, .int .i64 0, .int .i64 0, .int .i64 0, .slice none 0 0, .slice none 0 0, .int .i64 0, .int .i64 0, .int .i64 0, .int .i64 0, .int .i64 0, .int .i64 0, .int .i64 0]], []⟩ 8 (by kernel_rfl) (by kernel_rfl) (by kernel_rfl) (by kernel_rfl)) ?_
  intro W base args ds gs before hval0 hW hcnd hsz0 _
  have hval : ∀ (j : Nat) t v, Try.f6.params[j]? = some t → args[j]? = some v → Value.okWide Try.prog W .any base t v := hval0
  have hsz : (DataW.weightsEach Try.prog (Try.f6.params.toList ++ Rows.clockOldestSpec.plain.varTypes Try.prog) (ds ++ gs)).all (· ≤ reachBytes) = true := hsz0
  have hW' := hW
  obtain ⟨p, q, hA0, hV, rfl, hfz, hnd⟩ := hW
  have hA : DataW.TrodAll enc Try.prog W 0 (fun _ => true) true Try.f6.params.toList args.toList ds p := hA0
  rw [Try.params6] at hA hval hsz
  obtain ⟨v0, vs0, d0, ds0, p0, q0, hargs, rfl, rfl, h0, r0⟩ := trodAll_cons hA
  obtain ⟨rfl, rfl, rfl⟩ := trodAll_nil r0
  obtain rfl : args = #[v0] := by cases args; simp_all
  obtain ⟨rfl, rfl⟩ := trodVars_none hV
  have k0 := h0
  have lt0 : ∀ x ∈ p0, x.block < W.heap.size := by obtain ⟨m, hm⟩ := k0; exact DataW.trod_lt m _ _ _ hm
  obtain ⟨st0, sa0, rfl, sr0⟩ := open_st (hval 0 31 v0 rfl rfl) h0
  clear hA0 hval0
  refine (cold_walk st0 sa0 W).mono fun e W' ⟨he, bel⟩ => ?_
  subst he
  exact ⟨_, rfl, _, _, _, [], _, [], hW', trodAll_mk1 (shut_bool Try.underlying4 _), (trodAll_cons_mk (Below.trod laidOut (by kernel_rfl) (of_decide_eq_true (by kernel_rfl)) k0 bel lt0) trodAll_mk0), rfl, bel.frame _, fun h => by cases h⟩

theorem over : Rows.clockOldestRow.holds Try.pinned (OpenSpec.ofChange Rows.clockOldestSpec) :=
  OpenClaim.holds_of_wide 6 Try.f6 rfl rfl rfl rfl rfl rfl rfl ⟨rfl, rfl, rfl, rfl, rfl⟩ rfl rfl rfl rfl rfl (by kernel_rfl) Try.func6 (by kernel_rfl)
    (of_decide_eq_true (by kernel_rfl)) (by unfold Func.isWrapper; first | (rw [if_pos (by decide +kernel)]; kernel_rfl) | (rw [if_neg (by decide +kernel)]; exact ⟨rfl, rfl⟩))
    (fun os started H enc _ => lifted os started H enc)

theorem proved : Rows.ClockOldestSaid := over
end Go.Proofs.Ytagclnmchkgpdaa.clockOldest
