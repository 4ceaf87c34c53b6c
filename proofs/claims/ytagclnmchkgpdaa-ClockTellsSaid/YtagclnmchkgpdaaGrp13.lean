/-
  Layer 20: whether a state may be, by the document; whether two are the same, by the document.
-/
import Derived.Test.YtagclnmchkgpdaaGrp09
import Derived.Test.YtagclnmchkgpdaaGrp06
import Derived.Test.YtagclnmchkgpdaaGrp07
import Derived.Deep.LoopGhost
import Derived.Deep.CutBlock
set_option linter.unusedVariables false
set_option linter.unusedSimpArgs false
namespace Go.Proofs.Ytagclnmchkgpdaa
open Go.RowKit
/-- What bounds the kind's number (as memory has it). -/
def StB (s : Sta) : Prop := ∀ k, k < 3 → -128 ≤ (s.tid k).st ∧ (s.tid k).st ≤ 127
section
attribute [-go_sem] loadCells storeVar
set_option maxRecDepth 100000 in
set_option maxHeartbeats 8000000 in
theorem rMayS_any (s : Sta) (a : Sad) (B : Nat) (w : World) (h : StR w B s a) (hB : B ≤ w.heap.size) (hb : StB s) :
    Calls Try.prog 22 #[.agg (stX s a)] w fun e w' => e = .returned (.bool (mayS s)) ∧ Below w.heap.size w w' := by
  obtain ⟨W0, hW0⟩ : ∃ W0, W0 = w.alloc (.cells (stX s a) 31) := ⟨_, rfl⟩
  have s0 : W0.heap.size = w.heap.size + 1 := by rw [hW0]; simp
  have B0 : Below w.heap.size w W0 := by rw [hW0]; exact bal (Below.refl _ _) _
  have K1 : Blk W0 w.heap.size 31 (stX s a) := by rw [hW0]; exact Blk.new w 31 (stX s a)
  have HW := Lib.hid hW0
  have HS := Lib.hid s0
  have HB := Lib.hid B0
  have HK := Lib.hid K1
  have H := Lib.hid h
  have HBB := Lib.hid hB
  have HSB := Lib.hid hb
  have x0 := st_made K1
  clear hW0 s0 B0 K1 h hB hb
  by_cases m0 : s.made < 0
  · have d0 : decide (s.made < 0) = true := decide_eq_true m0
    have HM := Lib.hid (show mayS s = false from mayS_no (fun z => by omega))
    clear m0
    go_enter Try.func22, Try.ntmps22
    go_upto_region 1 with (fail)
    rw [← HW.out]
    go_wp2_with fail
    go_ret
    rw [HM.out]
    exact ⟨rfl, HB.out⟩
  by_cases m8 : 8 < s.made
  · have d0 : decide (s.made < 0) = false := decide_eq_false m0
    have d8 : decide (8 < s.made) = true := decide_eq_true m8
    have HM := Lib.hid (show mayS s = false from mayS_no (fun z => by omega))
    clear m0 m8
    go_enter Try.func22, Try.ntmps22
    go_upto_region 1 with (fail)
    rw [← HW.out]
    go_wp2_with fail
    go_ret
    rw [HM.out]
    exact ⟨rfl, HB.out⟩
  have d0 : decide (s.made < 0) = false := decide_eq_false m0
  have d8 : decide (8 < s.made) = false := decide_eq_false m8
  have HM := Lib.hid (show 0 ≤ s.made ∧ s.made ≤ 8 by omega)
  clear m0 m8
  go_enter Try.func22, Try.ntmps22
  go_upto_region 1 with (fail)
  rw [← HW.out]
  go_wp2_with fail
  clear x0
  go_loopg [3] 3 (fun mm y wq => ∃ (k : Nat), k ≤ 3 ∧ y = .int .i64 k ∧ mm = 3 - k ∧ (∀ i, i < k → okT s i = true) ∧ Below W0.heap.size W0 wq)
  case atStart => exact ⟨0, by omega, rfl, rfl, fun i hi => by omega, Below.refl _ _⟩
  case round =>
    obtain ⟨k, hk, rfl, hmm, hok, hbw⟩ := hrel
    have HMM := Lib.hid hmm
    have OK := Lib.hid hok
    have BW' := Lib.hid hbw
    clear hmm hok hbw
    by_cases hlt : k < 3
    · have d3 : decide ((k : Int) < 3) = true := decide_eq_true (by omega)
      have i1 : (0 : Int) ≤ (k : Int) := by omega
      have i2 : (k : Int) < 3 := by omega
      have KW := Lib.hid (HK.out.below BW'.out HK.out.lt)
      have HBW := Lib.hid (HB.out.trans (BW'.out.mono HB.out.size))
      have MY := Lib.hid (fun W (hW : Below wr.heap.size wr W) => rMay_any (s.tid k) (a.A k) (a.D k) (a.c k) (a.e k) B W ((H.out k hlt).below ((HBW.out.trans (hW.mono HBW.out.size)).mono HBB.out)) (by have := HBB.out; have := HBW.out.size; have := hW.size; omega) (HSB.out k hlt).1 (HSB.out k hlt).2)
      have lk := fun n : BW wr.heap.size wr => st_tid (KW.out.below n.2 KW.out.lt) k hlt
      have ck : ∀ n : BW wr.heap.size wr, n.1.cell? ⟨w.heap.size, 1 + k * 8 + 1, none⟩ = some (.int .i64 (s.tid k).pid) := fun n => st_cell (KW.out.below n.2 KW.out.lt) k hlt (j := 1) rfl
      have mk := fun n : BW wr.heap.size wr => st_made (KW.out.below n.2 KW.out.lt)
      cases hmay : mayB (s.tid k)
      · rw [hmay] at MY
        have HNO := Lib.hid (show mayS s = false from mayS_noT hlt (by unfold okT; rw [hmay]; rfl))
        clear hmay
        go_wp2_with fail
        refine wp_region_bq wr.heap.size (by kernel_rfl) (by kernel_rfl) ?_
        repeat (go_big_quiet_step ((go_at_call 34; exact bw_call (Nat.le_refl _) (MY.out _ (by exact Subtype.property _)))))
        refine wpQuiet_nil ?_
        rintro _ ⟨n, rfl⟩
        have BN := Lib.hid n.2
        clear lk ck mk
        go_wp2_with fail
        go_ret
        rw [HNO.out]
        exact ⟨rfl, HBW.out.trans (BN.out.mono HBW.out.size)⟩
      · rw [hmay] at MY
        have HMAY := Lib.hid hmay
        clear hmay
        obtain ⟨u, hu⟩ : ∃ u, decide (s.made < (s.tid k).pid) = u := ⟨_, rfl⟩
        go_wp2_with fail
        refine wp_region_bq wr.heap.size (by kernel_rfl) (by kernel_rfl) ?_
        repeat (go_big_quiet_step ((go_at_call 34; exact bw_call (Nat.le_refl _) (MY.out _ (by exact Subtype.property _)))))
        refine wpQuiet_nil ?_
        rintro _ ⟨n, rfl⟩
        have b3 : Below wr.heap.size wr n.1 := n.2
        generalize n.1 = w3 at b3 ⊢
        have BN := Lib.hid b3
        have BW3 := Lib.hid (BW'.out.trans (b3.mono BW'.out.size))
        clear lk ck mk b3
        cases u
        · have HP := Lib.hid (show (s.tid k).pid ≤ s.made by have := of_decide_eq_false hu; omega)
          clear hu
          go_wp2_with fail
          go_loopg [4] k (fun mm y wv => ∃ (j : Nat), j ≤ k ∧ y = .int .i64 j ∧ mm = k - j ∧ (∀ i, i < j → (s.tid k).pid = 0 ∨ (s.tid i).pid ≠ (s.tid k).pid) ∧ Below w3.heap.size w3 wv)
          case atStart => exact ⟨0, by omega, rfl, by omega, fun i hi => by omega, Below.refl _ _⟩
          case round =>
            obtain ⟨j, hj, rfl, hmj, hoj, hbv⟩ := hrel
            have HMJ := Lib.hid hmj
            have OJ := Lib.hid hoj
            have BV := Lib.hid hbv
            have BWV := Lib.hid (BW3.out.trans (hbv.mono BW3.out.size))
            have HKV := Lib.hid (HK.out.below BWV.out HK.out.lt)
            clear hmj hoj hbv
            by_cases hjk : j < k
            · have dj : decide ((j : Int) < (k : Int)) = true := decide_eq_true (by omega)
              have j1 : (0 : Int) ≤ (j : Int) := by omega
              have j2 : (j : Int) < 3 := by omega
              have ck : ∀ n : BW wr.heap.size wr, n.1.cell? ⟨w.heap.size, 1 + k * 8 + 1, none⟩ = some (.int .i64 (s.tid k).pid) := fun n => st_cell (HKV.out.below n.2 HKV.out.lt) k hlt (j := 1) rfl
              have cj : ∀ n : BW wr.heap.size wr, n.1.cell? ⟨w.heap.size, 1 + j * 8 + 1, none⟩ = some (.int .i64 (s.tid j).pid) := fun n => st_cell (HKV.out.below n.2 HKV.out.lt) j (by omega) (j := 1) rfl
              obtain ⟨u1, hu1⟩ : ∃ u1, decide (0 < (s.tid k).pid) = u1 := ⟨_, rfl⟩
              obtain ⟨v1, hv1⟩ : ∃ v1, ((s.tid j).pid == (s.tid k).pid) = v1 := ⟨_, rfl⟩
              have HU := Lib.hid hu1
              have HV := Lib.hid hv1
              cases u1
              · go_wp2_with fail
                refine wp_region_bq wr.heap.size (by kernel_rfl) (by kernel_rfl) ?_
                repeat (go_big_quiet_step (fail))
                refine wpQuiet_nil ?_
                rintro _ ⟨n, rfl⟩
                have BN2 := Lib.hid n.2
                clear ck cj
                go_wp2_with fail
                go_roundg (gk - 1)
                case measure => have := HMJ.out; omega
                case rel =>
                  refine ⟨j + 1, by omega, by go_num, by have := HMJ.out; omega, fun i hi => ?_, BV.out.trans (BN2.out.mono BV.out.size)⟩
                  have h1 := of_decide_eq_false HU.out
                  have h2 := may_pid HMAY.out
                  exact .inl (by omega)
              · cases v1
                · go_wp2_with fail
                  refine wp_region_bq wr.heap.size (by kernel_rfl) (by kernel_rfl) ?_
                  repeat (go_big_quiet_step (fail))
                  refine wpQuiet_nil ?_
                  rintro _ ⟨n, rfl⟩
                  have BN2 := Lib.hid n.2
                  clear ck cj
                  go_wp2_with fail
                  go_roundg (gk - 1)
                  case measure => have := HMJ.out; omega
                  case rel =>
                    refine ⟨j + 1, by omega, by go_num, by have := HMJ.out; omega, fun i hi => ?_, BV.out.trans (BN2.out.mono BV.out.size)⟩
                    rcases Nat.lt_succ_iff_lt_or_eq.1 hi with h | h
                    · exact OJ.out i h
                    · have := HV.out
                      rw [h]
                      exact .inr (by simpa using this)
                · have HNO := Lib.hid (show mayS s = false from mayS_noT hlt (by
                    cases hk' : okT s k
                    · rfl
                    · rcases ((okT_iff s k).1 hk').2.2 j hjk with h | h
                      · have := of_decide_eq_true HU.out; omega
                      · have := HV.out; exact absurd (by simpa using this) h))
                  go_wp2_with fail
                  refine wp_region_bq wr.heap.size (by kernel_rfl) (by kernel_rfl) ?_
                  repeat (go_big_quiet_step (fail))
                  refine wpQuiet_nil ?_
                  rintro _ ⟨n, rfl⟩
                  have BN2 := Lib.hid n.2
                  clear ck cj
                  go_wp2_with fail
                  go_ret
                  rw [HNO.out]
                  exact ⟨rfl, HB.out.trans ((BWV.out.trans (BN2.out.mono BWV.out.size)).mono HB.out.size)⟩
            · obtain rfl : j = k := by omega
              have dj : decide ((j : Int) < (j : Int)) = false := by simp
              go_wp2_with fail
              go_roundg (3 - j - 1)
              case measure => have := HMM.out; omega
              case rel =>
                refine ⟨j + 1, by omega, by go_num, by omega, fun i hi => ?_, BWV.out⟩
                rcases Nat.lt_succ_iff_lt_or_eq.1 hi with h | h
                · exact OK.out i h
                · rw [h]
                  exact (okT_iff s j).2 ⟨HMAY.out, HP.out, OJ.out⟩
        · have HNO := Lib.hid (show mayS s = false from mayS_noT hlt (by
            cases hk' : okT s k
            · rfl
            · have := ((okT_iff s k).1 hk').2.1; have := of_decide_eq_true hu; omega))
          clear hu
          go_wp2_with fail
          go_ret
          rw [HNO.out]
          exact ⟨rfl, HB.out.trans (BW3.out.mono HB.out.size)⟩
    · obtain rfl : k = 3 := by omega
      have d3 : decide (((3 : Nat) : Int) < 3) = false := by decide
      have HOK := Lib.hid OK.out
      have KW := Lib.hid (HK.out.below BW'.out HK.out.lt)
      go_wp2_with fail
      go_loopg [5] 2 (fun mm y wq => ∃ (g : Nat), g ≤ 2 ∧ y = .int .i64 g ∧ mm = 2 - g ∧ (∀ i, i < g * 3 → okG s i = true) ∧ wq = wr)
      case atStart => exact ⟨0, by omega, rfl, rfl, fun i hi => by omega, rfl⟩
      case round =>
        obtain ⟨g, hg, rfl, hmg, hog, rfl⟩ := hrel
        have HMG := Lib.hid hmg
        have OG := Lib.hid hog
        clear hmg hog
        by_cases hlg : g < 2
        · have dg : decide ((g : Int) < 2) = true := decide_eq_true (by omega)
          go_wp2_with fail
          go_loopg [6] 3 (fun mm y wv => ∃ (q : Nat), q ≤ 3 ∧ y = .int .i64 q ∧ mm = 3 - q ∧ (∀ i, i < g * 3 + q → okG s i = true) ∧ wv = wr)
          case atStart => exact ⟨0, by omega, rfl, rfl, OG.out, rfl⟩
          case round =>
            obtain ⟨q, hq, rfl, hmq, hoq, rfl⟩ := hrel
            have HMQ := Lib.hid hmq
            have OQ := Lib.hid hoq
            clear hmq hoq
            by_cases hlq : q < 3
            · have dq : decide ((q : Int) < 3) = true := decide_eq_true (by omega)
              have g1 : (0 : Int) ≤ (g : Int) := by omega
              have g2 : (g : Int) < 2 := by omega
              have q1 : (0 : Int) ≤ (q : Int) := by omega
              have q2 : (q : Int) < 3 := by omega
              have xg : wr.cell? ⟨w.heap.size, 25 + g * 3 + q, none⟩ = some (.int .i64 (s.gr (g * 3 + q))) := by
                have := st_gr KW.out (g * 3 + q) (by omega)
                rw [← Nat.add_assoc] at this
                exact this
              obtain ⟨u1, hu1⟩ : ∃ u1, decide (s.gr (g * 3 + q) < -1) = u1 := ⟨_, rfl⟩
              obtain ⟨v1, hv1⟩ : ∃ v1, decide (1048576 < s.gr (g * 3 + q)) = v1 := ⟨_, rfl⟩
              cases u1
              · cases v1
                · have HQ := Lib.hid (show okG s (g * 3 + q) = true by
                    unfold okG
                    have := of_decide_eq_false hu1
                    have := of_decide_eq_false hv1
                    rw [decide_eq_true (by omega), decide_eq_true (by omega)]; rfl)
                  go_wp2_with fail
                  go_roundg (gk - 1)
                  case measure => have := HMQ.out; omega
                  case rel =>
                    refine ⟨q + 1, by omega, by go_num, by have := HMQ.out; omega, fun i hi => ?_, rfl⟩
                    rcases Nat.lt_succ_iff_lt_or_eq.1 (show i < (g * 3 + q) + 1 by omega) with h | h
                    · exact OQ.out i h
                    · rw [h]; exact HQ.out
                · have HNO := Lib.hid (show mayS s = false from mayS_noG (g := g * 3 + q) (by omega) (by
                    unfold okG
                    have := of_decide_eq_true hv1
                    rw [decide_eq_false (p := s.gr (g * 3 + q) ≤ 1048576) (by omega), Bool.and_false]))
                  go_wp2_with fail
                  go_ret
                  rw [HNO.out]
                  exact ⟨rfl, HB.out.trans (BW'.out.mono HB.out.size)⟩
              · have HNO := Lib.hid (show mayS s = false from mayS_noG (g := g * 3 + q) (by omega) (by
                  unfold okG
                  have := of_decide_eq_true hu1
                  rw [decide_eq_false (p := -1 ≤ s.gr (g * 3 + q)) (by omega), Bool.false_and]))
                go_wp2_with fail
                go_ret
                rw [HNO.out]
                exact ⟨rfl, HB.out.trans (BW'.out.mono HB.out.size)⟩
            · obtain rfl : q = 3 := by omega
              have dq : decide (((3 : Nat) : Int) < 3) = false := by decide
              go_wp2_with fail
              go_roundg (2 - g - 1)
              case measure => have := HMG.out; omega
              case rel =>
                exact ⟨g + 1, by omega, by go_num, by omega, fun i hi => OQ.out i (by omega), rfl⟩
        · obtain rfl : g = 2 := by omega
          have dg : decide (((2 : Nat) : Int) < 2) = false := by decide
          have HYES := Lib.hid (show mayS s = true from (mayS_iff s).2 ⟨HM.out.1, HM.out.2, HOK.out, OG.out⟩)
          go_wp2_with fail
          go_ret
          rw [HYES.out]
          exact ⟨rfl, HB.out.trans (BW'.out.mono HB.out.size)⟩
end
end Go.Proofs.Ytagclnmchkgpdaa
