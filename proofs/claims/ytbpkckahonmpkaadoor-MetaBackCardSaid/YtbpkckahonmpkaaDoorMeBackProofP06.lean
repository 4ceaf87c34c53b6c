/-
  errors.As and errors.Is at an error of type meta.fault, which wraps its code.
  Layer 20: whether a state may be, by the document; whether two are the same, by the document.
  Layer 21: a state behind a tick, a state made young: by the program and by the document.
  Layer 20, 21: a state that has more than the statements go through; the first state.
  errors.As, errors.Is at an error that wraps its code: what the library's entries give. (After the guide's worked text for errors.As at a concrete target.)
  errors.As and errors.Is at an error of type states.fault, which wraps its code.
  What errors.As leaves behind; the library's own variable.
  Layer 18: the code of an error; Ended, Has, Great.
-/
import Derived.Test.YtbpkckahonmpkaaDoorMeBackProofP05
import Derived.Deep.LoopGhost
import Derived.Deep.CutBlock
import Derived.Laws.Tables
import Derived.Test.YtbpkckahonmpkaaDoorRows
import Derived.WalkKit
import Derived.LaidEql
import Derived.Stop.Asserts
import Derived.RowKitTokens
import Derived.Lib.Hide
import Derived.LoopN
set_option linter.unusedVariables false
set_option linter.unusedSimpArgs false
namespace Go.Proofs.YtbpkckahonmpkaaDoor
open Go.RowKit
/-- What bounds the kind's number (as memory has it). -/
def StB (s : Sta) : Prop := ∀ k, k < 3 → -128 ≤ (s.tid k).st ∧ (s.tid k).st ≤ 127
section
attribute [-go_sem] loadCells storeVar
set_option maxRecDepth 100000 in
set_option maxHeartbeats 8000000 in
theorem rMayS_any (s : Sta) (a : Sad) (B : Nat) (w : World) (h : StR w B s a) (hB : B ≤ w.heap.size) (hb : StB s) :
    Calls Tryd.prog 18 #[.agg (stX s a)] w fun e w' => e = .returned (.bool (mayS s)) ∧ Below w.heap.size w w' := by
  obtain ⟨W0, hW0⟩ : ∃ W0, W0 = w.alloc (.cells (stX s a) 31) := ⟨_, rfl⟩
  have s0 : W0.heap.size = w.heap.size + 1 := by rw [hW0]; simp
  have B0 : Below w.heap.size w W0 := by rw [hW0]; exact bal (Below.refl _ _) _
  have K1 : Blk W0 w.heap.size 31 (stX s a) := by rw [hW0]; exact Blk.new w 31 (stX s a)
  have HW := Lib.hid hW0
  have HS := Lib.hid s0
  have HB := Lib.hid B0
  have HK := Lib.hid K1
  have H := Lib.hid h
  have HBB := Lib.hid hB
  have HSB := Lib.hid hb
  have x0 := st_made K1
  clear hW0 s0 B0 K1 h hB hb
  by_cases m0 : s.made < 0
  · have d0 : decide (s.made < 0) = true := decide_eq_true m0
    have HM := Lib.hid (show mayS s = false from mayS_no (fun z => by omega))
    clear m0
    go_enter Tryd.func18, Tryd.ntmps18
    go_upto_region 1 with (fail)
    rw [← HW.out]
    go_wp2_with fail
    go_ret
    rw [HM.out]
    exact ⟨rfl, HB.out⟩
  by_cases m8 : 8 < s.made
  · have d0 : decide (s.made < 0) = false := decide_eq_false m0
    have d8 : decide (8 < s.made) = true := decide_eq_true m8
    have HM := Lib.hid (show mayS s = false from mayS_no (fun z => by omega))
    clear m0 m8
    go_enter Tryd.func18, Tryd.ntmps18
    go_upto_region 1 with (fail)
    rw [← HW.out]
    go_wp2_with fail
    go_ret
    rw [HM.out]
    exact ⟨rfl, HB.out⟩
  have d0 : decide (s.made < 0) = false := decide_eq_false m0
  have d8 : decide (8 < s.made) = false := decide_eq_false m8
  have HM := Lib.hid (show 0 ≤ s.made ∧ s.made ≤ 8 by omega)
  clear m0 m8
  go_enter Tryd.func18, Tryd.ntmps18
  go_upto_region 1 with (fail)
  rw [← HW.out]
  go_wp2_with fail
  clear x0
  go_loopg [3] 3 (fun mm y wq => ∃ (k : Nat), k ≤ 3 ∧ y = .int .i64 k ∧ mm = 3 - k ∧ (∀ i, i < k → okT s i = true) ∧ Below W0.heap.size W0 wq)
  case atStart => exact ⟨0, by omega, rfl, rfl, fun i hi => by omega, Below.refl _ _⟩
  case round =>
    obtain ⟨k, hk, rfl, hmm, hok, hbw⟩ := hrel
    have HMM := Lib.hid hmm
    have OK := Lib.hid hok
    have BW' := Lib.hid hbw
    clear hmm hok hbw
    by_cases hlt : k < 3
    · have d3 : decide ((k : Int) < 3) = true := decide_eq_true (by omega)
      have i1 : (0 : Int) ≤ (k : Int) := by omega
      have i2 : (k : Int) < 3 := by omega
      have KW := Lib.hid (HK.out.below BW'.out HK.out.lt)
      have HBW := Lib.hid (HB.out.trans (BW'.out.mono HB.out.size))
      have MY := Lib.hid (fun W (hW : Below wr.heap.size wr W) => rMay_any (s.tid k) (a.A k) (a.D k) (a.c k) (a.e k) B W ((H.out k hlt).below ((HBW.out.trans (hW.mono HBW.out.size)).mono HBB.out)) (by have := HBB.out; have := HBW.out.size; have := hW.size; omega) (HSB.out k hlt).1 (HSB.out k hlt).2)
      have lk := fun n : BW wr.heap.size wr => st_tid (KW.out.below n.2 KW.out.lt) k hlt
      have ck : ∀ n : BW wr.heap.size wr, n.1.cell? ⟨w.heap.size, 1 + k * 8 + 1, none⟩ = some (.int .i64 (s.tid k).pid) := fun n => st_cell (KW.out.below n.2 KW.out.lt) k hlt (j := 1) rfl
      have mk := fun n : BW wr.heap.size wr => st_made (KW.out.below n.2 KW.out.lt)
      cases hmay : mayB (s.tid k)
      · rw [hmay] at MY
        have HNO := Lib.hid (show mayS s = false from mayS_noT hlt (by unfold okT; rw [hmay]; rfl))
        clear hmay
        go_wp2_with fail
        refine wp_region_bq wr.heap.size (by kernel_rfl) (by kernel_rfl) ?_
        repeat (go_big_quiet_step ((go_at_call 37; exact bw_call (Nat.le_refl _) (MY.out _ (by exact Subtype.property _)))))
        refine wpQuiet_nil ?_
        rintro _ ⟨n, rfl⟩
        have BN := Lib.hid n.2
        clear lk ck mk
        go_wp2_with fail
        go_ret
        rw [HNO.out]
        exact ⟨rfl, HBW.out.trans (BN.out.mono HBW.out.size)⟩
      · rw [hmay] at MY
        have HMAY := Lib.hid hmay
        clear hmay
        obtain ⟨u, hu⟩ : ∃ u, decide (s.made < (s.tid k).pid) = u := ⟨_, rfl⟩
        go_wp2_with fail
        refine wp_region_bq wr.heap.size (by kernel_rfl) (by kernel_rfl) ?_
        repeat (go_big_quiet_step ((go_at_call 37; exact bw_call (Nat.le_refl _) (MY.out _ (by exact Subtype.property _)))))
        refine wpQuiet_nil ?_
        rintro _ ⟨n, rfl⟩
        have b3 : Below wr.heap.size wr n.1 := n.2
        generalize n.1 = w3 at b3 ⊢
        have BN := Lib.hid b3
        have BW3 := Lib.hid (BW'.out.trans (b3.mono BW'.out.size))
        clear lk ck mk b3
        cases u
        · have HP := Lib.hid (show (s.tid k).pid ≤ s.made by have := of_decide_eq_false hu; omega)
          clear hu
          go_wp2_with fail
          go_loopg [4] k (fun mm y wv => ∃ (j : Nat), j ≤ k ∧ y = .int .i64 j ∧ mm = k - j ∧ (∀ i, i < j → (s.tid k).pid = 0 ∨ (s.tid i).pid ≠ (s.tid k).pid) ∧ Below w3.heap.size w3 wv)
          case atStart => exact ⟨0, by omega, rfl, by omega, fun i hi => by omega, Below.refl _ _⟩
          case round =>
            obtain ⟨j, hj, rfl, hmj, hoj, hbv⟩ := hrel
            have HMJ := Lib.hid hmj
            have OJ := Lib.hid hoj
            have BV := Lib.hid hbv
            have BWV := Lib.hid (BW3.out.trans (hbv.mono BW3.out.size))
            have HKV := Lib.hid (HK.out.below BWV.out HK.out.lt)
            clear hmj hoj hbv
            by_cases hjk : j < k
            · have dj : decide ((j : Int) < (k : Int)) = true := decide_eq_true (by omega)
              have j1 : (0 : Int) ≤ (j : Int) := by omega
              have j2 : (j : Int) < 3 := by omega
              have ck : ∀ n : BW wr.heap.size wr, n.1.cell? ⟨w.heap.size, 1 + k * 8 + 1, none⟩ = some (.int .i64 (s.tid k).pid) := fun n => st_cell (HKV.out.below n.2 HKV.out.lt) k hlt (j := 1) rfl
              have cj : ∀ n : BW wr.heap.size wr, n.1.cell? ⟨w.heap.size, 1 + j * 8 + 1, none⟩ = some (.int .i64 (s.tid j).pid) := fun n => st_cell (HKV.out.below n.2 HKV.out.lt) j (by omega) (j := 1) rfl
              obtain ⟨u1, hu1⟩ : ∃ u1, decide (0 < (s.tid k).pid) = u1 := ⟨_, rfl⟩
              obtain ⟨v1, hv1⟩ : ∃ v1, ((s.tid j).pid == (s.tid k).pid) = v1 := ⟨_, rfl⟩
              have HU := Lib.hid hu1
              have HV := Lib.hid hv1
              cases u1
              · go_wp2_with fail
                refine wp_region_bq wr.heap.size (by kernel_rfl) (by kernel_rfl) ?_
                repeat (go_big_quiet_step (fail))
                refine wpQuiet_nil ?_
                rintro _ ⟨n, rfl⟩
                have BN2 := Lib.hid n.2
                clear ck cj
                go_wp2_with fail
                go_roundg (gk - 1)
                case measure => have := HMJ.out; omega
                case rel =>
                  refine ⟨j + 1, by omega, by go_num, by have := HMJ.out; omega, fun i hi => ?_, BV.out.trans (BN2.out.mono BV.out.size)⟩
                  have h1 := of_decide_eq_false HU.out
                  have h2 := may_pid HMAY.out
                  exact .inl (by omega)
              · cases v1
                · go_wp2_with fail
                  refine wp_region_bq wr.heap.size (by kernel_rfl) (by kernel_rfl) ?_
                  repeat (go_big_quiet_step (fail))
                  refine wpQuiet_nil ?_
                  rintro _ ⟨n, rfl⟩
                  have BN2 := Lib.hid n.2
                  clear ck cj
                  go_wp2_with fail
                  go_roundg (gk - 1)
                  case measure => have := HMJ.out; omega
                  case rel =>
                    refine ⟨j + 1, by omega, by go_num, by have := HMJ.out; omega, fun i hi => ?_, BV.out.trans (BN2.out.mono BV.out.size)⟩
                    rcases Nat.lt_succ_iff_lt_or_eq.1 hi with h | h
                    · exact OJ.out i h
                    · have := HV.out
                      rw [h]
                      exact .inr (by simpa using this)
                · have HNO := Lib.hid (show mayS s = false from mayS_noT hlt (by
                    cases hk' : okT s k
                    · rfl
                    · rcases ((okT_iff s k).1 hk').2.2 j hjk with h | h
                      · have := of_decide_eq_true HU.out; omega
                      · have := HV.out; exact absurd (by simpa using this) h))
                  go_wp2_with fail
                  refine wp_region_bq wr.heap.size (by kernel_rfl) (by kernel_rfl) ?_
                  repeat (go_big_quiet_step (fail))
                  refine wpQuiet_nil ?_
                  rintro _ ⟨n, rfl⟩
                  have BN2 := Lib.hid n.2
                  clear ck cj
                  go_wp2_with fail
                  go_ret
                  rw [HNO.out]
                  exact ⟨rfl, HB.out.trans ((BWV.out.trans (BN2.out.mono BWV.out.size)).mono HB.out.size)⟩
            · obtain rfl : j = k := by omega
              have dj : decide ((j : Int) < (j : Int)) = false := by simp
              go_wp2_with fail
              go_roundg (3 - j - 1)
              case measure => have := HMM.out; omega
              case rel =>
                refine ⟨j + 1, by omega, by go_num, by omega, fun i hi => ?_, BWV.out⟩
                rcases Nat.lt_succ_iff_lt_or_eq.1 hi with h | h
                · exact OK.out i h
                · rw [h]
                  exact (okT_iff s j).2 ⟨HMAY.out, HP.out, OJ.out⟩
        · have HNO := Lib.hid (show mayS s = false from mayS_noT hlt (by
            cases hk' : okT s k
            · rfl
            · have := ((okT_iff s k).1 hk').2.1; have := of_decide_eq_true hu; omega))
          clear hu
          go_wp2_with fail
          go_ret
          rw [HNO.out]
          exact ⟨rfl, HB.out.trans (BW3.out.mono HB.out.size)⟩
    · obtain rfl : k = 3 := by omega
      have d3 : decide (((3 : Nat) : Int) < 3) = false := by decide
      have HOK := Lib.hid OK.out
      have KW := Lib.hid (HK.out.below BW'.out HK.out.lt)
      go_wp2_with fail
      go_loopg [5] 2 (fun mm y wq => ∃ (g : Nat), g ≤ 2 ∧ y = .int .i64 g ∧ mm = 2 - g ∧ (∀ i, i < g * 3 → okG s i = true) ∧ wq = wr)
      case atStart => exact ⟨0, by omega, rfl, rfl, fun i hi => by omega, rfl⟩
      case round =>
        obtain ⟨g, hg, rfl, hmg, hog, rfl⟩ := hrel
        have HMG := Lib.hid hmg
        have OG := Lib.hid hog
        clear hmg hog
        by_cases hlg : g < 2
        · have dg : decide ((g : Int) < 2) = true := decide_eq_true (by omega)
          go_wp2_with fail
          go_loopg [6] 3 (fun mm y wv => ∃ (q : Nat), q ≤ 3 ∧ y = .int .i64 q ∧ mm = 3 - q ∧ (∀ i, i < g * 3 + q → okG s i = true) ∧ wv = wr)
          case atStart => exact ⟨0, by omega, rfl, rfl, OG.out, rfl⟩
          case round =>
            obtain ⟨q, hq, rfl, hmq, hoq, rfl⟩ := hrel
            have HMQ := Lib.hid hmq
            have OQ := Lib.hid hoq
            clear hmq hoq
            by_cases hlq : q < 3
            · have dq : decide ((q : Int) < 3) = true := decide_eq_true (by omega)
              have g1 : (0 : Int) ≤ (g : Int) := by omega
              have g2 : (g : Int) < 2 := by omega
              have q1 : (0 : Int) ≤ (q : Int) := by omega
              have q2 : (q : Int) < 3 := by omega
              have xg : wr.cell? ⟨w.heap.size, 25 + g * 3 + q, none⟩ = some (.int .i64 (s.gr (g * 3 + q))) := by
                have := st_gr KW.out (g * 3 + q) (by omega)
                rw [← Nat.add_assoc] at this
                exact this
              obtain ⟨u1, hu1⟩ : ∃ u1, decide (s.gr (g * 3 + q) < -1) = u1 := ⟨_, rfl⟩
              obtain ⟨v1, hv1⟩ : ∃ v1, decide (1048576 < s.gr (g * 3 + q)) = v1 := ⟨_, rfl⟩
              cases u1
              · cases v1
                · have HQ := Lib.hid (show okG s (g * 3 + q) = true by
                    unfold okG
                    have := of_decide_eq_false hu1
                    have := of_decide_eq_false hv1
                    rw [decide_eq_true (by omega), decide_eq_true (by omega)]; rfl)
                  go_wp2_with fail
                  go_roundg (gk - 1)
                  case measure => have := HMQ.out; omega
                  case rel =>
                    refine ⟨q + 1, by omega, by go_num, by have := HMQ.out; omega, fun i hi => ?_, rfl⟩
                    rcases Nat.lt_succ_iff_lt_or_eq.1 (show i < (g * 3 + q) + 1 by omega) with h | h
                    · exact OQ.out i h
                    · rw [h]; exact HQ.out
                · have HNO := Lib.hid (show mayS s = false from mayS_noG (g := g * 3 + q) (by omega) (by
                    unfold okG
                    have := of_decide_eq_true hv1
                    rw [decide_eq_false (p := s.gr (g * 3 + q) ≤ 1048576) (by omega), Bool.and_false]))
                  go_wp2_with fail
                  go_ret
                  rw [HNO.out]
                  exact ⟨rfl, HB.out.trans (BW'.out.mono HB.out.size)⟩
              · have HNO := Lib.hid (show mayS s = false from mayS_noG (g := g * 3 + q) (by omega) (by
                  unfold okG
                  have := of_decide_eq_true hu1
                  rw [decide_eq_false (p := -1 ≤ s.gr (g * 3 + q)) (by omega), Bool.false_and]))
                go_wp2_with fail
                go_ret
                rw [HNO.out]
                exact ⟨rfl, HB.out.trans (BW'.out.mono HB.out.size)⟩
            · obtain rfl : q = 3 := by omega
              have dq : decide (((3 : Nat) : Int) < 3) = false := by decide
              go_wp2_with fail
              go_roundg (2 - g - 1)
              case measure => have := HMG.out; omega
              case rel =>
                exact ⟨g + 1, by omega, by go_num, by omega, fun i hi => OQ.out i (by omega), rfl⟩
        · obtain rfl : g = 2 := by omega
          have dg : decide (((2 : Nat) : Int) < 2) = false := by decide
          have HYES := Lib.hid (show mayS s = true from (mayS_iff s).2 ⟨HM.out.1, HM.out.2, HOK.out, OG.out⟩)
          go_wp2_with fail
          go_ret
          rw [HYES.out]
          exact ⟨rfl, HB.out.trans (BW'.out.mono HB.out.size)⟩
end
end Go.Proofs.YtbpkckahonmpkaaDoor
namespace Go.Proofs.YtbpkckahonmpkaaDoor
open Go.RowKit
section
attribute [-go_sem] loadCells storeVar
end
section
attribute [-go_sem] loadCells storeVar
end
section
attribute [-go_sem] loadCells storeVar
end
section
attribute [-go_sem] loadCells storeVar
end
section
attribute [-go_sem] loadCells storeVar
end
section
attribute [-go_sem] loadCells storeVar
end
section
attribute [-go_sem] loadCells storeVar
end
section
attribute [-go_sem] loadCells storeVar
end
section
attribute [-go_sem] loadCells storeVar Instr.build
end
section
attribute [-go_sem] loadCells storeVar Instr.build
end
theorem StNew.post {t : Sta} {w w' : World} {e : Ending} (h : StNew t w e w') : StPost t w e w' := by
  obtain ⟨a, h1, h2, h3, _⟩ := h
  exact ⟨a, h1, h2, h3⟩
section
attribute [-go_sem] loadCells storeVar
end
end Go.Proofs.YtbpkckahonmpkaaDoor
namespace Go.Proofs.YtbpkckahonmpkaaDoor
open Go.RowKit
def bigT (c : Co) : Bool := decide (40 < c.ps.length) || decide (40 < c.qs.length)
def bigS (s : Sta) : Bool := (List.range 3).any fun k => bigT (s.tid k)
theorem bigS_no {s : Sta} (h : bigS s = false) : ∀ k, k < 3 → (s.tid k).ps.length ≤ 40 ∧ (s.tid k).qs.length ≤ 40 := fun k hk => by
  unfold bigS at h
  rw [List.any_eq_false] at h
  have := h k (List.mem_range.2 hk)
  unfold bigT at this
  simp only [Bool.or_eq_true, decide_eq_true_eq, not_or] at this
  omega
def sta00 : Sta := ⟨0, fun _ => Co0, fun _ => 0⟩
def sta0 : Sta := ⟨0, fun _ => Co0, fun _ => -1⟩
def sad0 : Sad := ⟨fun _ => none, fun _ => none, fun _ => 0, fun _ => 0⟩
def Sta.setGr (s : Sta) (g : Nat) (n : Int) : Sta := { s with gr := fun j => if j = g then n else s.gr j }
theorem st_setgr {W : World} {b : Nat} {t : TypeId} {s : Sta} {a : Sad} (h : Blk W b t (stX s a)) (g : Nat) (hg : g < 6) (n : Int) : Blk (W.setCell ⟨b, 25 + g, none⟩ (.int .i64 n)) b t (stX (s.setGr g n) a) := by
  have := h.set_ (25 + g) (.int .i64 n)
  have e : (stX s a).setIfInBounds (25 + g) (.int .i64 n) = stX (s.setGr g n) a := by
    unfold stX
    rw [List.setIfInBounds_toArray]
    match g, hg with
    | 0, _ => rfl
    | 1, _ => rfl
    | 2, _ => rfl
    | 3, _ => rfl
    | 4, _ => rfl
    | 5, _ => rfl
  rw [← e]
  exact this
theorem st_setmade {W : World} {b : Nat} {t : TypeId} {s : Sta} {a : Sad} (h : Blk W b t (stX s a)) (n : Int) : Blk (W.setCell ⟨b, 0, none⟩ (.int .i64 n)) b t (stX { s with made := n } a) := by
  have := h.set_ 0 (.int .i64 n)
  have e : (stX s a).setIfInBounds 0 (.int .i64 n) = stX { s with made := n } a := by
    unfold stX
    rw [List.setIfInBounds_toArray]
    rfl
  rw [← e]
  exact this
section
attribute [-go_sem] loadCells storeVar
section
attribute [-go_sem] Instr.build
end
end
end Go.Proofs.YtbpkckahonmpkaaDoor
namespace Go.Proofs.YtbpkckahonmpkaaDoor
open Go.RowKit Go.Stop Go.Extern

/-! The model's entries for internal/reflectlite at this program's types. -/
theorem asValueOf (t : Addr) (w : World) : (callFunc 74 #[.iface 87 (.pointer (some t))]).run Tryd.prog w
    = .ok (.value (.agg #[.pointer (some ⟨1, 87, none⟩), .pointer (some ⟨w.heap.size, 0, none⟩), .int .u64 150])) (w.alloc (.cells #[.pointer (some t)] 87)) := by kernel_rfl
theorem asType (a : Addr) (w : World) : (callFunc 75 #[.agg #[.pointer (some ⟨1, 87, none⟩), .pointer (some a), .int .u64 150]]).run Tryd.prog w
    = .ok (.value (.iface 120 (.agg #[.pointer (some ⟨1, 87, none⟩)]))) w := by kernel_rfl
theorem asMethodKind (k : Nat) (h : Value) (w : World) : (Go.method (k + 1) 120 (.agg #[h]) "Kind").run Tryd.prog w = .ok (107, h) w := by kernel_rfl
theorem asKindP (w : World) : (callFunc 107 #[.pointer (some ⟨1, 87, none⟩)]).run Tryd.prog w = .ok (.value (.int .u8 22)) w := by kernel_rfl
theorem asKindE (w : World) : (callFunc 107 #[.pointer (some ⟨1, 39, none⟩)]).run Tryd.prog w = .ok (.value (.int .u8 2)) w := by kernel_rfl
theorem asMethodElem (k : Nat) (h : Value) (w : World) : (Go.method (k + 1) 120 (.agg #[h]) "Elem").run Tryd.prog w = .ok (121, .agg #[h]) w := by kernel_rfl
theorem asMethodImplements (k : Nat) (h : Value) (w : World) : (Go.method (k + 1) 120 (.agg #[h]) "Implements").run Tryd.prog w = .ok (122, .agg #[h]) w := by kernel_rfl
theorem asMethodAssignable (k : Nat) (h : Value) (w : World) : (Go.method (k + 1) 120 (.agg #[h]) "AssignableTo").run Tryd.prog w = .ok (119, .agg #[h]) w := by kernel_rfl
theorem asElem (w : World) : (callFunc 121 #[.agg #[.pointer (some ⟨1, 87, none⟩)]]).run Tryd.prog w = .ok (.value (.iface 120 (.agg #[.pointer (some ⟨1, 39, none⟩)]))) w := by kernel_rfl
theorem asImplements (w : World) : (callFunc 122 #[.agg #[.pointer (some ⟨1, 39, none⟩)], .iface 120 (.agg #[.pointer (some ⟨1, 62, none⟩)])]).run Tryd.prog w = .ok (.value (.bool true)) w := by kernel_rfl
theorem asTypeOfE (v : Value) (w : World) : (callFunc 72 #[.iface 39 v]).run Tryd.prog w = .ok (.value (.iface 120 (.agg #[.pointer (some ⟨1, 39, none⟩)]))) w := by kernel_rfl
theorem asAssignE (w : World) : (callFunc 119 #[.agg #[.pointer (some ⟨1, 39, none⟩)], .iface 120 (.agg #[.pointer (some ⟨1, 39, none⟩)])]).run Tryd.prog w = .ok (.value (.bool true)) w := by kernel_rfl
theorem asValueOfE (n : Int) (w : World) : (callFunc 74 #[.iface 39 (.int .i64 n)]).run Tryd.prog w
    = .ok (.value (.agg #[.pointer (some ⟨1, 39, none⟩), .pointer (some ⟨w.heap.size, 0, none⟩), .int .u64 130])) (w.alloc (.cells #[.int .i64 n] 39)) := by kernel_rfl

/-! The entries that read or write memory. -/
-- (a line of the guide's worked text for errors.As)
theorem rlm (z : Sem Value) (f : TypeId → Addr → Nat → Nat → Sem Value) (v : Value) :
    ReflectliteValue.method z f #[v] = (do match ← ReflectliteValue.parts v with | none => z | some (t, a, fl) => f t a fl (fl % 32)) := rfl
theorem asPartsP (a : Addr) (w : World) : (ReflectliteValue.parts (.agg #[.pointer (some ⟨1, 87, none⟩), .pointer (some a), .int .u64 150])).run Tryd.prog w = .ok (some (87, a, 150)) w := by kernel_rfl
theorem asIsNil (a p : Addr) (W : World) (ha : W.cell? a = some (.pointer (some p))) :
    (callFunc 76 #[.agg #[.pointer (some ⟨1, 87, none⟩), .pointer (some a), .int .u64 150]]).run Tryd.prog W = .ok (.value (.bool false)) W := by
  rw [@run_callFunc_extern Tryd.prog 76 _ (ReflectliteValue.method (ReflectliteValue.valueError "reflectlite.Value.IsNil" 0) ReflectliteValue.isNil) Tryd.func76 (by kernel_rfl) (by kernel_rfl) (by kernel_rfl) (by kernel_rfl), rlm]
  simp only [Sem.run_bind, asPartsP, Result.andThen]
  simp [ReflectliteValue.isNil, loadVar, isAgg, underlying, Tryd.underlying87, ha, Result.andThen]
theorem asElemOf (w : World) : (Rtype.elem? 87).run Tryd.prog w = .ok (some 39) w := by kernel_rfl
theorem asMk (p : Addr) (w : World) : (ReflectliteValue.mk 39 p ReflectliteValue.flagAddr).run Tryd.prog w = .ok (.agg #[.pointer (some ⟨1, 39, none⟩), .pointer (some p), .int .u64 386]) w := by kernel_rfl
theorem asElemV (a p : Addr) (W : World) (ha : W.cell? a = some (.pointer (some p))) :
    (callFunc 85 #[.agg #[.pointer (some ⟨1, 87, none⟩), .pointer (some a), .int .u64 150]]).run Tryd.prog W
      = .ok (.value (.agg #[.pointer (some ⟨1, 39, none⟩), .pointer (some p), .int .u64 386])) W := by
  rw [@run_callFunc_extern Tryd.prog 85 _ (ReflectliteValue.method (ReflectliteValue.valueError "reflectlite.Value.Elem" 0) ReflectliteValue.elem) Tryd.func85 (by kernel_rfl) (by kernel_rfl) (by kernel_rfl) (by kernel_rfl), rlm]
  simp only [Sem.run_bind, asPartsP, Result.andThen]
  simp [ReflectliteValue.elem, loadVar, isAgg, underlying, Tryd.underlying87, ha, Result.andThen, asElemOf, asMk]

theorem asPartsD (a : Addr) (w : World) : (ReflectliteValue.parts (.agg #[.pointer (some ⟨1, 39, none⟩), .pointer (some a), .int .u64 386])).run Tryd.prog w = .ok (some (39, a, 386)) w := by kernel_rfl
theorem asPartsS (a : Addr) (w : World) : (ReflectliteValue.parts (.agg #[.pointer (some ⟨1, 39, none⟩), .pointer (some a), .int .u64 130])).run Tryd.prog w = .ok (some (39, a, 130)) w := by kernel_rfl
theorem asDirect (w : World) : (Rtype.directlyAssignable 39 39).run Tryd.prog w = .ok true w := by kernel_rfl
-- (a line of the guide's worked text for errors.As)
theorem rls (v x : Value) : ReflectliteValue.set #[v, x] = (do
    let (some (dst, a, fl), some (src, b, _)) := (← ReflectliteValue.parts v, ← ReflectliteValue.parts x)
      | unsupported (.noEntry "extern/(internal/reflectlite.Value).Set.zeroValue")
    if fl / ReflectliteValue.flagAddr % 2 == 0 then unsupported (.noEntry "extern/(internal/reflectlite.Value).Set.unaddressable")
    let val ← loadVar src b
    if ← Rtype.directlyAssignable dst src then storeVar dst a val
    else if ← Rtype.implements dst src then
      if (← Rtype.kind src) == 20 then
        match val with
        | .nilIface => unsupported (.noEntry "extern/reflectlite: a nil value of one interface type handed on as a value of another")
        | _ => storeVar dst a val
      else storeVar dst a (.iface src val)
    else panicString ("reflectlite.Set: value of type " ++ (← Rtype.spelt src) ++ " is not assignable to type " ++ (← Rtype.spelt dst))
    pure (.tuple #[])) := rfl
theorem asSet (ta b : Addr) (n : Int) (old : Value) (W : World) (hb : W.cell? b = some (.int .i64 n)) (ht : W.cell? ta = some old) (hf : W.frozen? ta = false) :
    (callFunc 86 #[.agg #[.pointer (some ⟨1, 39, none⟩), .pointer (some ta), .int .u64 386], .agg #[.pointer (some ⟨1, 39, none⟩), .pointer (some b), .int .u64 130]]).run Tryd.prog W
      = .ok (.value (.tuple #[])) (W.setCell ta (.int .i64 n)) := by
  rw [@run_callFunc_extern Tryd.prog 86 _ ReflectliteValue.set Tryd.func86 (by kernel_rfl) (by kernel_rfl) (by kernel_rfl) (by kernel_rfl), rls]
  simp only [Sem.run_bind, asPartsD, asPartsS, Result.andThen]
  simp [ReflectliteValue.flagAddr, loadVar, isAgg, underlying, Tryd.underlying39, hb, Result.andThen, asDirect, storeVar, Value.cells, storeCells, Addr.add]
  rw [run_store Tryd.prog W ta _ _ (by rfl)]
  simp [ht, hf]

/-- The world that errors.As leaves behind: four new blocks, and what the target points to is set. -/
def asWorld (w : World) (t : Nat) (n : Int) : World :=
  ((((w.alloc (.cells #[.pointer (some ⟨t, 0, none⟩)] 87)).alloc (.cells #[.pointer (some ⟨1, 87, none⟩), .pointer (some ⟨w.heap.size, 0, none⟩), .int .u64 150] 106)).alloc (.cells #[.pointer (some ⟨1, 87, none⟩), .pointer (some ⟨w.heap.size, 0, none⟩), .int .u64 150] 106)).alloc (.cells #[.int .i64 n] 39)).setCell ⟨t, 0, none⟩ (.int .i64 n)


theorem isMethodComparable (k : Nat) (h : Value) (w : World) : (Go.method (k + 1) 120 (.agg #[h]) "Comparable").run Tryd.prog w = .ok (120, .agg #[h]) w := by kernel_rfl
theorem isComparableE (w : World) : (callFunc 120 #[.agg #[.pointer (some ⟨1, 39, none⟩)]]).run Tryd.prog w = .ok (.value (.bool true)) w := by kernel_rfl
theorem isNoIsE (v : Value) (xT : TypeId) (w : World) : (Instr.typeAssert (.iface 39 v) xT 122 true).run Tryd.prog w = .ok (.tuple #[.nilIface, .bool false]) w := run_typeAssert_lacksB Tryd.underlying122 (by kernel_rfl) (by kernel_rfl) v xT w
theorem isNoUnwrapE (v : Value) (xT : TypeId) (w : World) : (Instr.typeAssert (.iface 39 v) xT 125 true).run Tryd.prog w = .ok (.tuple #[.nilIface, .bool false]) w := run_typeAssert_lacksB Tryd.underlying125 (by kernel_rfl) (by kernel_rfl) v xT w
theorem isNoUnwrapsE (v : Value) (xT : TypeId) (w : World) : (Instr.typeAssert (.iface 39 v) xT 127 true).run Tryd.prog w = .ok (.tuple #[.nilIface, .bool false]) w := run_typeAssert_lacksB Tryd.underlying127 (by kernel_rfl) (by kernel_rfl) v xT w

theorem run_equalIn_ifc {P : Program} (w : World) (d : Nat) {ti tn : TypeId} {ms : Array (String × TypeId)} {i : TypeInfo} {k : IntKind} (a b : Int)
    (hi : P.underlying ti = some (.interface ms)) (hn : P.underlying tn = some (.int k)) (hinfo : P.info? tn = some i) (hcomp : i.comparable = true) :
    (Op.equalIn (d + 2) ti (.iface tn (.int k a)) (.iface tn (.int k b))).run P w = .ok (a == b) w := by
  simp [Op.equalIn, run_underlying hi, run_underlying hn, typeInfo, hinfo, hcomp]
theorem eqErrno (a b : Int) (w : World) : (binOp .eql 62 (.iface 39 (.int .i64 a)) (.iface 39 (.int .i64 b))).run Tryd.prog w = .ok (.bool (a == b)) w := by
  obtain ⟨i, hi, hc⟩ : ∃ i, Tryd.prog.info? 39 = some i ∧ i.comparable = true := by
    have h : (Tryd.prog.info? 39).map (·.comparable) = some true := by kernel_rfl
    cases hx : Tryd.prog.info? 39 with
    | none => rw [hx] at h; cases h
    | some i => rw [hx] at h; exact ⟨i, rfl, by simpa using h⟩
  simp only [binOp]
  simp [Op.equal, Op.maxDepth, run_equalIn_ifc w 9998 a b Tryd.underlying62 Tryd.underlying39 hi hc]
end Go.Proofs.YtbpkckahonmpkaaDoor
namespace Go.Proofs.YtbpkckahonmpkaaDoor.ErSt
open Go.RowKit Go.Stop Go.Extern

theorem asTypeOfB (v : Value) (w : World) : (callFunc 72 #[.iface 92 v]).run Tryd.prog w = .ok (.value (.iface 120 (.agg #[.pointer (some ⟨1, 92, none⟩)]))) w := by kernel_rfl
theorem asAssignB (w : World) : (callFunc 119 #[.agg #[.pointer (some ⟨1, 92, none⟩)], .iface 120 (.agg #[.pointer (some ⟨1, 39, none⟩)])]).run Tryd.prog w = .ok (.value (.bool false)) w := by kernel_rfl
theorem asNoAs (v : Value) (xT : TypeId) (w : World) : (Instr.typeAssert (.iface 92 v) xT 132 true).run Tryd.prog w = .ok (.tuple #[.nilIface, .bool false]) w := run_typeAssert_lacksB Tryd.underlying132 (by kernel_rfl) (by kernel_rfl) v xT w
theorem asHasUnwrap (v : Value) (xT : TypeId) (w : World) : (Instr.typeAssert (.iface 92 v) xT 125 true).run Tryd.prog w = .ok (.tuple #[.iface 92 v, .bool true]) w := run_typeAssert_hasB Tryd.underlying125 (by kernel_rfl) v xT w
theorem asMethodUnwrap (k : Nat) (v : Value) (w : World) : (Go.method (k + 1) 92 v "Unwrap").run Tryd.prog w = .ok (114, v) w := by kernel_rfl
set_option maxHeartbeats 4000000 in
/-- errors.As(&error{.., n}, &e): true, and e is n. -/
theorem as_any (b t : Nat) (n : Int) (old : Value) (w : World) (hg : w.cell? ⟨0, 0, none⟩ = some (.iface 120 (.agg #[.pointer (some ⟨1, 62, none⟩)])))
    (hb1 : w.cell? ⟨b, 1, none⟩ = some (.int .i64 n)) (ht0 : w.cell? ⟨t, 0, none⟩ = some old) (hf0 : w.frozen? ⟨t, 0, none⟩ = false) :
    Calls Tryd.prog 51 #[.iface 92 (.pointer (some ⟨b, 0, none⟩)), .iface 87 (.pointer (some ⟨t, 0, none⟩))] w fun ev w' => ev = .returned (.bool true) ∧ asWorld w t n = w' := by
  have hlt : 0 < w.heap.size := by
    rcases Nat.lt_or_ge 0 w.heap.size with h | h
    · exact h
    · simp [World.cell?, Array.getElem?_eq_none h] at hg
  have hbl : b < w.heap.size := by
    rcases Nat.lt_or_ge b w.heap.size with h | h
    · exact h
    · simp [World.cell?, Array.getElem?_eq_none h] at hb1
  have htl : t < w.heap.size := by
    rcases Nat.lt_or_ge t w.heap.size with h | h
    · exact h
    · simp [World.cell?, Array.getElem?_eq_none h] at ht0
  have f1 := asValueOf
  have f2 := asType
  have f3 := asMethodKind
  have f4 := asKindP
  have f5 := asKindE
  have f6 := asMethodElem
  have f7 := asMethodImplements
  have f8 := asMethodAssignable
  have f9 := asElem
  have f10 := asImplements
  have f11 := asTypeOfB
  have f12 := asTypeOfE
  have f13 := asAssignB
  have f14 := asAssignE
  have f15 := asValueOfE
  have f16 := asNoAs
  have f17 := asHasUnwrap
  have f18 := asMethodUnwrap
  have n8 := asIsNil ⟨w.heap.size, 0, none⟩ ⟨t, 0, none⟩ ((w.alloc (.cells #[.pointer (some ⟨t, 0, none⟩)] 87)).alloc (.cells #[.pointer (some ⟨1, 87, none⟩), .pointer (some ⟨w.heap.size, 0, none⟩), .int .u64 150] 106)) (by simp)
  have hg2 : ((w.alloc (.cells #[.pointer (some ⟨t, 0, none⟩)] 87)).alloc (.cells #[.pointer (some ⟨1, 87, none⟩), .pointer (some ⟨w.heap.size, 0, none⟩), .int .u64 150] 106)).cell? ⟨0, 0, none⟩ = some (.iface 120 (.agg #[.pointer (some ⟨1, 62, none⟩)])) := by
    rw [World.cell?_alloc_lt _ _ ⟨0, 0, none⟩ (by simp only [World.size_alloc]; omega), World.cell?_alloc_lt _ _ ⟨0, 0, none⟩ hlt]; exact hg
  have hb2 : (((w.alloc (.cells #[.pointer (some ⟨t, 0, none⟩)] 87)).alloc (.cells #[.pointer (some ⟨1, 87, none⟩), .pointer (some ⟨w.heap.size, 0, none⟩), .int .u64 150] 106)).alloc (.cells #[.pointer (some ⟨1, 87, none⟩), .pointer (some ⟨w.heap.size, 0, none⟩), .int .u64 150] 106)).cell? ⟨b, 1, none⟩ = some (.int .i64 n) := by
    rw [World.cell?_alloc_lt _ _ ⟨b, 1, none⟩ (by simp only [World.size_alloc]; omega), World.cell?_alloc_lt _ _ ⟨b, 1, none⟩ (by simp only [World.size_alloc]; omega), World.cell?_alloc_lt _ _ ⟨b, 1, none⟩ hbl]; exact hb1
  have el := asElemV ⟨w.heap.size, 0, none⟩ ⟨t, 0, none⟩ (((w.alloc (.cells #[.pointer (some ⟨t, 0, none⟩)] 87)).alloc (.cells #[.pointer (some ⟨1, 87, none⟩), .pointer (some ⟨w.heap.size, 0, none⟩), .int .u64 150] 106)).alloc (.cells #[.pointer (some ⟨1, 87, none⟩), .pointer (some ⟨w.heap.size, 0, none⟩), .int .u64 150] 106)) (by rw [World.cell?_alloc_lt _ _ ⟨w.heap.size, 0, none⟩ (by simp only [World.size_alloc]; omega)]; simp)
  have st := asSet ⟨t, 0, none⟩ ⟨w.heap.size + 1 + 1 + 1, 0, none⟩ n old ((((w.alloc (.cells #[.pointer (some ⟨t, 0, none⟩)] 87)).alloc (.cells #[.pointer (some ⟨1, 87, none⟩), .pointer (some ⟨w.heap.size, 0, none⟩), .int .u64 150] 106)).alloc (.cells #[.pointer (some ⟨1, 87, none⟩), .pointer (some ⟨w.heap.size, 0, none⟩), .int .u64 150] 106)).alloc (.cells #[.int .i64 n] 39))
    (by rw [World.cell?_alloc_at _ _ _ _ (by simp)]; rfl)
    (by rw [World.cell?_alloc_lt _ _ ⟨t, 0, none⟩ (by simp only [World.size_alloc]; omega), World.cell?_alloc_lt _ _ ⟨t, 0, none⟩ (by simp only [World.size_alloc]; omega), World.cell?_alloc_lt _ _ ⟨t, 0, none⟩ (by simp only [World.size_alloc]; omega), World.cell?_alloc_lt _ _ ⟨t, 0, none⟩ htl]; exact ht0)
    (by rw [World.frozen?_alloc_old _ _ ⟨t, 0, none⟩ (by simp only [World.size_alloc]; omega), World.frozen?_alloc_old _ _ ⟨t, 0, none⟩ (by simp only [World.size_alloc]; omega), World.frozen?_alloc_old _ _ ⟨t, 0, none⟩ (by simp only [World.size_alloc]; omega), World.frozen?_alloc_old _ _ ⟨t, 0, none⟩ (Nat.ne_of_lt htl)]; exact hf0)
  go_enter Tryd.func51, Tryd.ntmps51
  go_wp2
  refine wp_loop_rounds 2 ?_
  iterate 2 (rw [rounds_succ]; go_wp2)
  go_ret
  exact ⟨rfl, rfl⟩

theorem isNoIs (v : Value) (xT : TypeId) (w : World) : (Instr.typeAssert (.iface 92 v) xT 122 true).run Tryd.prog w = .ok (.tuple #[.nilIface, .bool false]) w := run_typeAssert_lacksB Tryd.underlying122 (by kernel_rfl) (by kernel_rfl) v xT w
theorem eqOther (v : Value) (b : Int) (w : World) : (binOp .eql 62 (.iface 92 v) (.iface 39 (.int .i64 b))).run Tryd.prog w = .ok (.bool false) w := by kernel_rfl

set_option maxRecDepth 100000 in
set_option maxHeartbeats 4000000 in
/-- errors.Is(&error{.., n}, m): whether n is m. -/
theorem is_any (b : Nat) (n m : Int) (w : World) (hb1 : w.cell? ⟨b, 1, none⟩ = some (.int .i64 n)) :
    Calls Tryd.prog 50 #[.iface 92 (.pointer (some ⟨b, 0, none⟩)), .iface 39 (.int .i64 m)] w fun ev w' => ev = .returned (.bool (n == m)) ∧ w = w' := by
  have f6 := isMethodComparable
  have f7 := isComparableE
  have f8 := isNoIsE
  have f9 := isNoUnwrapE
  have f10 := isNoUnwrapsE
  have f11 := eqErrno
  have f12 := asTypeOfE
  have f16 := isNoIs
  have f17 := asHasUnwrap
  have f18 := asMethodUnwrap
  have f19 := eqOther
  by_cases hnm : n = m
  · subst hnm
    go_enter Tryd.func50, Tryd.ntmps50
    go_wp2
    refine wp_loop_rounds 2 ?_
    iterate 2 (rw [rounds_succ]; go_wp2)
    go_ret
    exact ⟨by simp, rfl⟩
  · have d1 : (n == m) = false := beq_eq_false_iff_ne.2 hnm
    have D1 := Lib.hid d1
    go_enter Tryd.func50, Tryd.ntmps50
    go_wp2
    refine wp_loop_rounds 2 ?_
    iterate 2 (rw [rounds_succ]; go_wp2)
    go_ret
    exact ⟨by rw [D1.out]; rfl, rfl⟩
end Go.Proofs.YtbpkckahonmpkaaDoor.ErSt
namespace Go.Proofs.YtbpkckahonmpkaaDoor
open Go.RowKit

/-- The library's own variable holds the handle of the type error. -/
def HasET (w : World) : Prop := w.cell? ⟨0, 0, none⟩ = some (.iface 120 (.agg #[.pointer (some ⟨1, 62, none⟩)]))
theorem HasET.lt {w : World} (h : HasET w) : 0 < w.heap.size := by
  rcases Nat.lt_or_ge 0 w.heap.size with h1 | h1
  · exact h1
  · unfold HasET at h; simp [World.cell?, Array.getElem?_eq_none h1] at h
theorem HasET.below {w w' : World} (h : HasET w) {B : Nat} (hb : Below B w w') (hB : 0 < B) : HasET w' := (hb.cell (p := ⟨0, 0, none⟩) hB).trans h
theorem HasET.up {w w' : World} (h : HasET w) (hb : Below w.heap.size w w') : HasET w' := h.below hb h.lt

theorem asW_cell (w : World) (n : Int) : (asWorld (w.alloc (.cells #[.int .i64 0] 39)) w.heap.size n).cell? ⟨w.heap.size, 0, none⟩ = some (.int .i64 n) := by
  unfold asWorld
  refine World.cell?_setCell_same' _ _ _ ?_
  rw [World.cell?_alloc_lt _ _ ⟨w.heap.size, 0, none⟩ (by simp only [World.size_alloc]; omega), World.cell?_alloc_lt _ _ ⟨w.heap.size, 0, none⟩ (by simp only [World.size_alloc]; omega), World.cell?_alloc_lt _ _ ⟨w.heap.size, 0, none⟩ (by simp only [World.size_alloc]; omega), World.cell?_alloc_lt _ _ ⟨w.heap.size, 0, none⟩ (by simp only [World.size_alloc]; omega)]
  simp
theorem asW_below (w : World) (n : Int) : Below w.heap.size w (asWorld (w.alloc (.cells #[.int .i64 0] 39)) w.heap.size n) := by
  rw [asWorld]
  refine Below.setCell (p := ⟨w.heap.size, 0, none⟩) ?_ (Nat.le_refl _) _
  exact ((((((Below.refl _ w).alloc (Nat.le_refl _) _).alloc (by simp) _).alloc (by simp only [World.size_alloc]; omega) _).alloc (by simp only [World.size_alloc]; omega) _).alloc (by simp only [World.size_alloc]; omega) _)
theorem cell_lt {w : World} {b o : Nat} {v : Value} (h : w.cell? ⟨b, o, none⟩ = some v) : b < w.heap.size := by
  rcases Nat.lt_or_ge b w.heap.size with h1 | h1
  · exact h1
  · simp [World.cell?, Array.getElem?_eq_none h1] at h
end Go.Proofs.YtbpkckahonmpkaaDoor
namespace Go.Proofs.YtbpkckahonmpkaaDoor
open Go.RowKit

set_option maxHeartbeats 1000000 in
theorem code_fault (b : Nat) (n : Int) (w : World) (hg : HasET w) (hb1 : w.cell? ⟨b, 1, none⟩ = some (.int .i64 n)) :
    Calls Tryd.prog 65 #[.iface 92 (.pointer (some ⟨b, 0, none⟩))] w fun e w' => e = .returned (.int .i64 n) ∧ Below w.heap.size w w' := by
  have hg1 : HasET (w.alloc (.cells #[.int .i64 0] 39)) := hg.up (bal (Below.refl _ _) _)
  have hb2 := (World.cell?_alloc_lt w (.cells #[.int .i64 0] 39) ⟨b, 1, none⟩ (cell_lt hb1)).trans hb1
  have HIS := Lib.hid (ErSt.is_any b n 2 (w.alloc (.cells #[.int .i64 0] 39)) hb2)
  have HAS := Lib.hid (ErSt.as_any b w.heap.size n (.int .i64 0) (w.alloc (.cells #[.int .i64 0] 39)) hg1 hb2 (by simp) (by simp))
  have HB := Lib.hid (fun x => bal (Below.refl w.heap.size w) x)
  have HC := Lib.hid (asW_cell w n)
  have HAB := Lib.hid (asW_below w n)
  clear hg1 hb2 hb1 hg
  by_cases h2 : n = 2
  · subst h2
    go_enter Tryd.func65, Tryd.ntmps65
    go_wp2_with (go_at_call 50; refine HIS.out.mono ?_; rintro e w1 ⟨rfl, rfl⟩)
    go_ret
    exact ⟨rfl, HB.out _⟩
  · have d2 : (n == 2) = false := eqb_false h2
    go_enter Tryd.func65, Tryd.ntmps65
    go_wp2_with (first | (go_at_call 50; refine HIS.out.mono ?_; rintro e w1 ⟨rfl, rfl⟩) | (go_at_call 51; refine HAS.out.mono ?_; rintro e w1 ⟨rfl, hw1⟩; have hc1 : w1.cell? ⟨w.heap.size, 0, none⟩ = some (.int .i64 n) := (by rw [← hw1]; exact HC.out); have HW1 := Lib.hid hw1; clear hw1))
    go_ret
    exact ⟨rfl, by rw [← HW1.out]; exact HAB.out⟩

def bigB (c : Co) : Bool := decide (40 < c.ps.length) || decide (40 < c.qs.length)
set_option maxHeartbeats 400000 in
theorem Great_any (c : Co) (A1 D1 : Option Addr) (c1 e1 : Nat) (w : World) : Calls Tryd.prog 23 #[(.agg #[.int .i8 c.st, .int .i64 c.pid, .int .i64 c.ep, .int .i64 c.tm, .int .i64 c.th, .slice A1 c.ps.length c1, .slice D1 c.qs.length e1, .int .i64 c.ag])] w fun e w' => e = .returned (.bool (bigB c)) ∧ Below w.heap.size w w' := by
  have HB := Lib.hid (fun x => bal (Below.refl w.heap.size w) x)
  go_enter Tryd.func23, Tryd.ntmps23
  go_wp2
  all_goals go_ret
  all_goals exact ⟨ret_bool (by unfold bigB; rw [Bool.eq_iff_iff]; simp [*] <;> omega), HB.out _⟩

end Go.Proofs.YtbpkckahonmpkaaDoor
namespace Go.Proofs.YtbpkckahonmpkaaDoor.ErMt
open Go.RowKit Go.Stop Go.Extern

theorem asTypeOfB (v : Value) (w : World) : (callFunc 72 #[.iface 65 v]).run Tryd.prog w = .ok (.value (.iface 120 (.agg #[.pointer (some ⟨1, 65, none⟩)]))) w := by kernel_rfl
theorem asAssignB (w : World) : (callFunc 119 #[.agg #[.pointer (some ⟨1, 65, none⟩)], .iface 120 (.agg #[.pointer (some ⟨1, 39, none⟩)])]).run Tryd.prog w = .ok (.value (.bool false)) w := by kernel_rfl
theorem asNoAs (v : Value) (xT : TypeId) (w : World) : (Instr.typeAssert (.iface 65 v) xT 132 true).run Tryd.prog w = .ok (.tuple #[.nilIface, .bool false]) w := run_typeAssert_lacksB Tryd.underlying132 (by kernel_rfl) (by kernel_rfl) v xT w
theorem asHasUnwrap (v : Value) (xT : TypeId) (w : World) : (Instr.typeAssert (.iface 65 v) xT 125 true).run Tryd.prog w = .ok (.tuple #[.iface 65 v, .bool true]) w := run_typeAssert_hasB Tryd.underlying125 (by kernel_rfl) v xT w
theorem asMethodUnwrap (k : Nat) (v : Value) (w : World) : (Go.method (k + 1) 65 v "Unwrap").run Tryd.prog w = .ok (112, v) w := by kernel_rfl
set_option maxHeartbeats 4000000 in
/-- errors.As(&error{.., n}, &e): true, and e is n. -/
theorem as_any (b t : Nat) (n : Int) (old : Value) (w : World) (hg : w.cell? ⟨0, 0, none⟩ = some (.iface 120 (.agg #[.pointer (some ⟨1, 62, none⟩)])))
    (hb1 : w.cell? ⟨b, 1, none⟩ = some (.int .i64 n)) (ht0 : w.cell? ⟨t, 0, none⟩ = some old) (hf0 : w.frozen? ⟨t, 0, none⟩ = false) :
    Calls Tryd.prog 51 #[.iface 65 (.pointer (some ⟨b, 0, none⟩)), .iface 87 (.pointer (some ⟨t, 0, none⟩))] w fun ev w' => ev = .returned (.bool true) ∧ asWorld w t n = w' := by
  have hlt : 0 < w.heap.size := by
    rcases Nat.lt_or_ge 0 w.heap.size with h | h
    · exact h
    · simp [World.cell?, Array.getElem?_eq_none h] at hg
  have hbl : b < w.heap.size := by
    rcases Nat.lt_or_ge b w.heap.size with h | h
    · exact h
    · simp [World.cell?, Array.getElem?_eq_none h] at hb1
  have htl : t < w.heap.size := by
    rcases Nat.lt_or_ge t w.heap.size with h | h
    · exact h
    · simp [World.cell?, Array.getElem?_eq_none h] at ht0
  have f1 := asValueOf
  have f2 := asType
  have f3 := asMethodKind
  have f4 := asKindP
  have f5 := asKindE
  have f6 := asMethodElem
  have f7 := asMethodImplements
  have f8 := asMethodAssignable
  have f9 := asElem
  have f10 := asImplements
  have f11 := asTypeOfB
  have f12 := asTypeOfE
  have f13 := asAssignB
  have f14 := asAssignE
  have f15 := asValueOfE
  have f16 := asNoAs
  have f17 := asHasUnwrap
  have f18 := asMethodUnwrap
  have n8 := asIsNil ⟨w.heap.size, 0, none⟩ ⟨t, 0, none⟩ ((w.alloc (.cells #[.pointer (some ⟨t, 0, none⟩)] 87)).alloc (.cells #[.pointer (some ⟨1, 87, none⟩), .pointer (some ⟨w.heap.size, 0, none⟩), .int .u64 150] 106)) (by simp)
  have hg2 : ((w.alloc (.cells #[.pointer (some ⟨t, 0, none⟩)] 87)).alloc (.cells #[.pointer (some ⟨1, 87, none⟩), .pointer (some ⟨w.heap.size, 0, none⟩), .int .u64 150] 106)).cell? ⟨0, 0, none⟩ = some (.iface 120 (.agg #[.pointer (some ⟨1, 62, none⟩)])) := by
    rw [World.cell?_alloc_lt _ _ ⟨0, 0, none⟩ (by simp only [World.size_alloc]; omega), World.cell?_alloc_lt _ _ ⟨0, 0, none⟩ hlt]; exact hg
  have hb2 : (((w.alloc (.cells #[.pointer (some ⟨t, 0, none⟩)] 87)).alloc (.cells #[.pointer (some ⟨1, 87, none⟩), .pointer (some ⟨w.heap.size, 0, none⟩), .int .u64 150] 106)).alloc (.cells #[.pointer (some ⟨1, 87, none⟩), .pointer (some ⟨w.heap.size, 0, none⟩), .int .u64 150] 106)).cell? ⟨b, 1, none⟩ = some (.int .i64 n) := by
    rw [World.cell?_alloc_lt _ _ ⟨b, 1, none⟩ (by simp only [World.size_alloc]; omega), World.cell?_alloc_lt _ _ ⟨b, 1, none⟩ (by simp only [World.size_alloc]; omega), World.cell?_alloc_lt _ _ ⟨b, 1, none⟩ hbl]; exact hb1
  have el := asElemV ⟨w.heap.size, 0, none⟩ ⟨t, 0, none⟩ (((w.alloc (.cells #[.pointer (some ⟨t, 0, none⟩)] 87)).alloc (.cells #[.pointer (some ⟨1, 87, none⟩), .pointer (some ⟨w.heap.size, 0, none⟩), .int .u64 150] 106)).alloc (.cells #[.pointer (some ⟨1, 87, none⟩), .pointer (some ⟨w.heap.size, 0, none⟩), .int .u64 150] 106)) (by rw [World.cell?_alloc_lt _ _ ⟨w.heap.size, 0, none⟩ (by simp only [World.size_alloc]; omega)]; simp)
  have st := asSet ⟨t, 0, none⟩ ⟨w.heap.size + 1 + 1 + 1, 0, none⟩ n old ((((w.alloc (.cells #[.pointer (some ⟨t, 0, none⟩)] 87)).alloc (.cells #[.pointer (some ⟨1, 87, none⟩), .pointer (some ⟨w.heap.size, 0, none⟩), .int .u64 150] 106)).alloc (.cells #[.pointer (some ⟨1, 87, none⟩), .pointer (some ⟨w.heap.size, 0, none⟩), .int .u64 150] 106)).alloc (.cells #[.int .i64 n] 39))
    (by rw [World.cell?_alloc_at _ _ _ _ (by simp)]; rfl)
    (by rw [World.cell?_alloc_lt _ _ ⟨t, 0, none⟩ (by simp only [World.size_alloc]; omega), World.cell?_alloc_lt _ _ ⟨t, 0, none⟩ (by simp only [World.size_alloc]; omega), World.cell?_alloc_lt _ _ ⟨t, 0, none⟩ (by simp only [World.size_alloc]; omega), World.cell?_alloc_lt _ _ ⟨t, 0, none⟩ htl]; exact ht0)
    (by rw [World.frozen?_alloc_old _ _ ⟨t, 0, none⟩ (by simp only [World.size_alloc]; omega), World.frozen?_alloc_old _ _ ⟨t, 0, none⟩ (by simp only [World.size_alloc]; omega), World.frozen?_alloc_old _ _ ⟨t, 0, none⟩ (by simp only [World.size_alloc]; omega), World.frozen?_alloc_old _ _ ⟨t, 0, none⟩ (Nat.ne_of_lt htl)]; exact hf0)
  go_enter Tryd.func51, Tryd.ntmps51
  go_wp2
  refine wp_loop_rounds 2 ?_
  iterate 2 (rw [rounds_succ]; go_wp2)
  go_ret
  exact ⟨rfl, rfl⟩

theorem isNoIs (v : Value) (xT : TypeId) (w : World) : (Instr.typeAssert (.iface 65 v) xT 122 true).run Tryd.prog w = .ok (.tuple #[.nilIface, .bool false]) w := run_typeAssert_lacksB Tryd.underlying122 (by kernel_rfl) (by kernel_rfl) v xT w
theorem eqOther (v : Value) (b : Int) (w : World) : (binOp .eql 62 (.iface 65 v) (.iface 39 (.int .i64 b))).run Tryd.prog w = .ok (.bool false) w := by kernel_rfl

set_option maxRecDepth 100000 in
set_option maxHeartbeats 4000000 in
/-- errors.Is(&error{.., n}, m): whether n is m. -/
theorem is_any (b : Nat) (n m : Int) (w : World) (hb1 : w.cell? ⟨b, 1, none⟩ = some (.int .i64 n)) :
    Calls Tryd.prog 50 #[.iface 65 (.pointer (some ⟨b, 0, none⟩)), .iface 39 (.int .i64 m)] w fun ev w' => ev = .returned (.bool (n == m)) ∧ w = w' := by
  have f6 := isMethodComparable
  have f7 := isComparableE
  have f8 := isNoIsE
  have f9 := isNoUnwrapE
  have f10 := isNoUnwrapsE
  have f11 := eqErrno
  have f12 := asTypeOfE
  have f16 := isNoIs
  have f17 := asHasUnwrap
  have f18 := asMethodUnwrap
  have f19 := eqOther
  by_cases hnm : n = m
  · subst hnm
    go_enter Tryd.func50, Tryd.ntmps50
    go_wp2
    refine wp_loop_rounds 2 ?_
    iterate 2 (rw [rounds_succ]; go_wp2)
    go_ret
    exact ⟨by simp, rfl⟩
  · have d1 : (n == m) = false := beq_eq_false_iff_ne.2 hnm
    have D1 := Lib.hid d1
    go_enter Tryd.func50, Tryd.ntmps50
    go_wp2
    refine wp_loop_rounds 2 ?_
    iterate 2 (rw [rounds_succ]; go_wp2)
    go_ret
    exact ⟨by rw [D1.out]; rfl, rfl⟩
end Go.Proofs.YtbpkckahonmpkaaDoor.ErMt
