/-
  Layer 21: who is due, what is left: by the program and by the document.
  Layer 20, 21: a state that has more than the statements go through; the first state.
-/
import Derived.Test.YtagclnmchkgpdaaGrp14
import Derived.Laws.Tables
import Derived.Lib.MinMax
set_option linter.unusedVariables false
set_option linter.unusedSimpArgs false
namespace Go.Proofs.Ytagclnmchkgpdaa
open Go.RowKit
def bigT (c : Co) : Bool := decide (40 < c.ps.length) || decide (40 < c.qs.length)
def bigS (s : Sta) : Bool := (List.range 3).any fun k => bigT (s.tid k)
theorem bigS_no {s : Sta} (h : bigS s = false) : ∀ k, k < 3 → (s.tid k).ps.length ≤ 40 ∧ (s.tid k).qs.length ≤ 40 := fun k hk => by
  unfold bigS at h
  rw [List.any_eq_false] at h
  have := h k (List.mem_range.2 hk)
  unfold bigT at this
  simp only [Bool.or_eq_true, decide_eq_true_eq, not_or] at this
  omega
def sta00 : Sta := ⟨0, fun _ => Co0, fun _ => 0⟩
def sta0 : Sta := ⟨0, fun _ => Co0, fun _ => -1⟩
def sad0 : Sad := ⟨fun _ => none, fun _ => none, fun _ => 0, fun _ => 0⟩
def Sta.setGr (s : Sta) (g : Nat) (n : Int) : Sta := { s with gr := fun j => if j = g then n else s.gr j }
theorem st_setgr {W : World} {b : Nat} {t : TypeId} {s : Sta} {a : Sad} (h : Blk W b t (stX s a)) (g : Nat) (hg : g < 6) (n : Int) : Blk (W.setCell ⟨b, 25 + g, none⟩ (.int .i64 n)) b t (stX (s.setGr g n) a) := by
  have := h.set_ (25 + g) (.int .i64 n)
  have e : (stX s a).setIfInBounds (25 + g) (.int .i64 n) = stX (s.setGr g n) a := by
    unfold stX
    rw [List.setIfInBounds_toArray]
    match g, hg with
    | 0, _ => rfl
    | 1, _ => rfl
    | 2, _ => rfl
    | 3, _ => rfl
    | 4, _ => rfl
    | 5, _ => rfl
  rw [← e]
  exact this
theorem st_setmade {W : World} {b : Nat} {t : TypeId} {s : Sta} {a : Sad} (h : Blk W b t (stX s a)) (n : Int) : Blk (W.setCell ⟨b, 0, none⟩ (.int .i64 n)) b t (stX { s with made := n } a) := by
  have := h.set_ 0 (.int .i64 n)
  have e : (stX s a).setIfInBounds 0 (.int .i64 n) = stX { s with made := n } a := by
    unfold stX
    rw [List.setIfInBounds_toArray]
    rfl
  rw [← e]
  exact this
section
attribute [-go_sem] loadCells storeVar
set_option maxRecDepth 100000 in
set_option maxHeartbeats 4000000 in
theorem great_any (s : Sta) (a : Sad) (w : World) :
    Calls Try.prog 8 #[.agg (stX s a)] w fun e w' => e = .returned (.bool (bigS s)) ∧ Below w.heap.size w w' := by
  obtain ⟨W0, hW0⟩ : ∃ W0, W0 = w.alloc (.cells (stX s a) 31) := ⟨_, rfl⟩
  have B0 : Below w.heap.size w W0 := by rw [hW0]; exact bal (Below.refl _ _) _
  have K1 : Blk W0 w.heap.size 31 (stX s a) := by rw [hW0]; exact Blk.new w 31 (stX s a)
  have HW := Lib.hid hW0
  have HB := Lib.hid B0
  have x1 := st_tids K1
  clear hW0 B0 K1
  go_enter Try.func8, Try.ntmps8
  go_upto_region 1 with (fail)
  rw [← HW.out]
  go_wp2_with fail
  clear x1
  go_loopg [7] 3 (fun mm y wq => ∃ (k : Nat), k ≤ 3 ∧ y = .int .i64 k ∧ mm = 3 - k ∧ (∀ i, i < k → bigT (s.tid i) = false) ∧ Below W0.heap.size W0 wq)
  case atStart => exact ⟨0, by omega, rfl, rfl, fun i hi => by omega, Below.refl _ _⟩
  case round =>
    obtain ⟨k, hk, rfl, hmm, hok, hbw⟩ := hrel
    have HMM := Lib.hid hmm
    have OK := Lib.hid hok
    have BW' := Lib.hid hbw
    clear hmm hok hbw
    by_cases hlt : k < 3
    · have d3 : decide ((k : Int) < 3) = true := decide_eq_true (by omega)
      have ix := st_index s a k hlt wr
      obtain ⟨W2, st2, k2, b2, s2⟩ := bk_fresh (P := Try.prog) wr 26 #[.int .i8 0, .int .i64 0, .int .i64 0, .int .i64 0, .int .i64 0, .slice none 0 0, .slice none 0 0, .int .i64 0] #[.int .i8 (s.tid k).st, .int .i64 (s.tid k).pid, .int .i64 (s.tid k).ep, .int .i64 (s.tid k).tm, .int .i64 (s.tid k).th, .slice (a.A k) (s.tid k).ps.length (a.c k), .slice (a.D k) (s.tid k).qs.length (a.e k), .int .i64 (s.tid k).ag] 8 infoCoS rfl rfl (by simp [Value.oneCell'])
      have y5 := k2.cell 5
      have y6 := k2.cell 6
      have B2 := Lib.hid (BW'.out.trans (b2.mono BW'.out.size))
      clear k2 b2 s2
      obtain ⟨u, hu⟩ : ∃ u, decide ((40 : Int) < ((s.tid k).ps.length : Int)) = u := ⟨_, rfl⟩
      obtain ⟨v, hv⟩ : ∃ v, decide ((40 : Int) < ((s.tid k).qs.length : Int)) = v := ⟨_, rfl⟩
      have HN := Lib.hid (show bigT (s.tid k) = (u || v) by
        unfold bigT
        rw [← hu, ← hv]
        congr 1
        · exact decide_eq_decide.2 (by omega)
        · exact decide_eq_decide.2 (by omega))
      have hY : ∀ z, bigT (s.tid k) = z → z = true → bigS s = true := fun z hz h => by
        unfold bigS
        rw [List.any_eq_true]
        exact ⟨k, List.mem_range.2 hlt, by rw [hz, h]⟩
      have HY := Lib.hid hY
      clear hY
      cases u
      · cases v
        · go_wp2_with fail
          go_roundg (gk - 1)
          case measure => have := HMM.out; omega
          case rel =>
            refine ⟨k + 1, by omega, by go_num, by have := HMM.out; omega, fun i hi => ?_, B2.out⟩
            rcases Nat.lt_succ_iff_lt_or_eq.1 hi with h | h
            · exact OK.out i h
            · rw [h, HN.out]; rfl
        · go_wp2_with fail
          go_ret
          rw [HY.out _ HN.out rfl]
          exact ⟨rfl, HB.out.trans (B2.out.mono HB.out.size)⟩
      · go_wp2_with fail
        go_ret
        rw [HY.out _ HN.out (by cases v <;> rfl)]
        exact ⟨rfl, HB.out.trans (B2.out.mono HB.out.size)⟩
    · obtain rfl : k = 3 := by omega
      have d3 : decide (((3 : Nat) : Int) < 3) = false := by decide
      have HN := Lib.hid (show bigS s = false by
        unfold bigS
        rw [List.any_eq_false]
        exact fun i hi => by rw [OK.out i (List.mem_range.1 hi)]; decide)
      go_wp2_with fail
      go_ret
      rw [HN.out]
      exact ⟨rfl, HB.out.trans (BW'.out.mono HB.out.size)⟩
set_option maxRecDepth 100000 in
theorem ret_First (X : Array Value) (tmps : Array Value) (b : Nat) (W : World) (h2 : tmps[0]?.getD undef = .pointer (some ⟨b, 0, none⟩)) (hK : Blk W b 31 X) (hX : X.size = 31) :
    (results Try.f35 tmps).run Try.prog W = .ok (.agg X) W := by
  have LC := bk_load (P := Try.prog) 31 hK hX
  clear hK
  simp [results, Try.results35, go_sem, h2, LC]
theorem sta_gr (g : Nat) : stX ({ sta00 with gr := fun j => if j < g then -1 else 0 }) sad0 = stX { sta00 with gr := fun j => if j < g then -1 else 0 } sad0 := rfl
section
attribute [-go_sem] Instr.build
set_option maxRecDepth 100000 in
set_option maxHeartbeats 4000000 in
theorem rFirst_any (w : World) :
    Calls Try.prog 35 #[] w fun e w' => e = .returned (.agg (stX sta0 sad0)) ∧ Below w.heap.size w w' := by
  have bd : ∀ W, (Instr.build 31 #[]).run Try.prog W = .ok (.agg (stX sta00 sad0)) W := fun W => run_build W 31 _ _ (by kernel_rfl)
  obtain ⟨W0, hW0⟩ : ∃ W0, W0 = w.alloc (.cells #[.int .i64 0, .int .i8 0, .int .i64 0, .int .i64 0, .int .i64 0, .int .i64 0, .slice none 0 0, .slice none 0 0, .int .i64 0, .int .i8 0, .int .i64 0, .int .i64 0, .int .i64 0, .int .i64 0, .slice none 0 0, .slice none 0 0, .int .i64 0, .int .i8 0, .int .i64 0, .int .i64 0, .int .i64 0, .int .i64 0, .slice none 0 0, .slice none 0 0, .int .i64 0, .int .i64 0, .int .i64 0, .int .i64 0, .int .i64 0, .int .i64 0, .int .i64 0] 31) := ⟨_, rfl⟩
  have B0 : Below w.heap.size w W0 := by rw [hW0]; exact bal (Below.refl _ _) _
  have K1 : Blk W0 w.heap.size 31 #[.int .i64 0, .int .i8 0, .int .i64 0, .int .i64 0, .int .i64 0, .int .i64 0, .slice none 0 0, .slice none 0 0, .int .i64 0, .int .i8 0, .int .i64 0, .int .i64 0, .int .i64 0, .int .i64 0, .slice none 0 0, .slice none 0 0, .int .i64 0, .int .i8 0, .int .i64 0, .int .i64 0, .int .i64 0, .int .i64 0, .slice none 0 0, .slice none 0 0, .int .i64 0, .int .i64 0, .int .i64 0, .int .i64 0, .int .i64 0, .int .i64 0, .int .i64 0] := by rw [hW0]; exact Blk.new w 31 #[.int .i64 0, .int .i8 0, .int .i64 0, .int .i64 0, .int .i64 0, .int .i64 0, .slice none 0 0, .slice none 0 0, .int .i64 0, .int .i8 0, .int .i64 0, .int .i64 0, .int .i64 0, .int .i64 0, .slice none 0 0, .slice none 0 0, .int .i64 0, .int .i8 0, .int .i64 0, .int .i64 0, .int .i64 0, .int .i64 0, .slice none 0 0, .slice none 0 0, .int .i64 0, .int .i64 0, .int .i64 0, .int .i64 0, .int .i64 0, .int .i64 0, .int .i64 0]
  have s0 : W0.heap.size = w.heap.size + 1 := by rw [hW0]; simp
  have HW := Lib.hid hW0
  have HB := Lib.hid B0
  have HK := Lib.hid K1
  have HS := Lib.hid s0
  obtain ⟨W2, st2, k2, b2, s2⟩ := bk_fresh (P := Try.prog) W0 31 #[.int .i64 0, .int .i8 0, .int .i64 0, .int .i64 0, .int .i64 0, .int .i64 0, .slice none 0 0, .slice none 0 0, .int .i64 0, .int .i8 0, .int .i64 0, .int .i64 0, .int .i64 0, .int .i64 0, .slice none 0 0, .slice none 0 0, .int .i64 0, .int .i8 0, .int .i64 0, .int .i64 0, .int .i64 0, .int .i64 0, .slice none 0 0, .slice none 0 0, .int .i64 0, .int .i64 0, .int .i64 0, .int .i64 0, .int .i64 0, .int .i64 0, .int .i64 0] (stX sta00 sad0) 31 infoSta rfl rfl (stX_one _ _)
  have B2 := Lib.hid b2
  have K2 := Lib.hid k2
  clear hW0 B0 K1 b2 k2 s2 s0
  go_enter Try.func35, Try.ntmps35
  go_upto_region 1 with (fail)
  rw [← HW.out]
  go_wp2_with fail
  clear bd st2
  go_loopg [2] 2 (fun mm y wq => ∃ (g : Nat), g ≤ 2 ∧ y = .int .i64 g ∧ mm = 2 - g ∧ Blk wq W0.heap.size 31 (stX { sta00 with gr := fun j => if j < g * 3 then -1 else 0 } sad0) ∧ Below W0.heap.size W0 wq)
  case atStart => exact ⟨0, by omega, rfl, rfl, K2.out, B2.out⟩
  case round =>
    obtain ⟨g, hg, rfl, hmg, hkb, hbg⟩ := hrel
    have HMG := Lib.hid hmg
    have KG := Lib.hid hkb
    have BG := Lib.hid hbg
    clear hmg hkb hbg
    by_cases hlg : g < 2
    · have dg : decide ((g : Int) < 2) = true := decide_eq_true (by omega)
      have g1 : (0 : Int) ≤ (g : Int) := by omega
      have g2 : (g : Int) < 2 := by omega
      go_wp2_with fail
      go_loopg [3] 3 (fun mm y wv => ∃ (q : Nat), q ≤ 3 ∧ y = .int .i64 q ∧ mm = 3 - q ∧ Blk wv W0.heap.size 31 (stX { sta00 with gr := fun j => if j < g * 3 + q then -1 else 0 } sad0) ∧ Below W0.heap.size W0 wv)
      case atStart => exact ⟨0, by omega, rfl, rfl, KG.out, BG.out⟩
      case round =>
        obtain ⟨q, hq, rfl, hmq, hkq, hbq⟩ := hrel
        have HMQ := Lib.hid hmq
        have KQ := Lib.hid hkq
        have BQ := Lib.hid hbq
        clear hmq hkq hbq
        by_cases hlq : q < 3
        · have dq : decide ((q : Int) < 3) = true := decide_eq_true (by omega)
          have q1 : (0 : Int) ≤ (q : Int) := by omega
          have q2 : (q : Int) < 3 := by omega
          have yq := st_gr KQ.out (g * 3 + q) (by omega)
          have zq := KQ.out.frozen (25 + (g * 3 + q))
          have k9 := st_setgr KQ.out (g * 3 + q) (by omega) (-1)
          have b9 := BQ.out.setCell (p := ⟨W0.heap.size, 25 + (g * 3 + q), none⟩) (Nat.le_refl _) (.int .i64 (-1))
          rw [← Nat.add_assoc] at yq zq k9 b9
          have st9 := store_intS (-1) yq zq
          have e9 : stX (({ sta00 with gr := fun j => if j < g * 3 + q then -1 else 0 } : Sta).setGr (g * 3 + q) (-1)) sad0 = stX { sta00 with gr := fun j => if j < g * 3 + (q + 1) then -1 else 0 } sad0 :=
            stX_congr rfl (fun j _ => by
              show (if j = g * 3 + q then (-1 : Int) else if j < g * 3 + q then -1 else 0) = if j < g * 3 + (q + 1) then -1 else 0
              by_cases h : j = g * 3 + q
              · rw [if_pos h, if_pos (by omega)]
              · rw [if_neg h]
                by_cases h2 : j < g * 3 + q
                · rw [if_pos h2, if_pos (by omega)]
                · rw [if_neg h2, if_neg (by omega)]) (fun _ _ => rfl) (fun _ _ => ⟨rfl, rfl, rfl, rfl⟩)
          rw [e9] at k9
          have K9 := Lib.hid k9
          have B9 := Lib.hid b9
          clear yq zq k9 b9 e9
          go_wp2_with fail
          go_roundg (gk - 1)
          case measure => have := HMQ.out; omega
          case rel => exact ⟨q + 1, by omega, by go_num, by have := HMQ.out; omega, K9.out, B9.out⟩
        · obtain rfl : q = 3 := by omega
          have dq : decide (((3 : Nat) : Int) < 3) = false := by decide
          go_wp2_with fail
          go_roundg (2 - g - 1)
          case measure => have := HMG.out; omega
          case rel => exact ⟨g + 1, by omega, by go_num, by omega, by rw [show (g + 1) * 3 = g * 3 + 3 by omega]; exact KQ.out, BQ.out⟩
    · obtain rfl : g = 2 := by omega
      have dg : decide (((2 : Nat) : Int) < 2) = false := by decide
      have KF := Lib.hid (show Blk wr W0.heap.size 31 (stX sta0 sad0) from KG.out)
      have L31 := st_load KF.out
      obtain ⟨W9, st9, kk, fb, fh, fsz⟩ := bk_store (P := Try.prog) (ty := 31) (cs := stX sta0 sad0) 31 (HK.out.below BG.out HK.out.lt) infoSta rfl rfl (stX_one _ _)
      have BB := Lib.hid (fb w.heap.size w (Nat.le_refl _) (HB.out.trans (BG.out.mono HB.out.size)))
      have KK := Lib.hid kk
      clear kk fb fh fsz
      go_wp2_with fail
      refine bodyPost_ret (v := .agg (stX sta0 sad0)) (ret_First (stX sta0 sad0) _ w.heap.size _ rfl KK.out rfl) rfl ?_
      exact ⟨rfl, BB.out⟩
end
end
end Go.Proofs.Ytagclnmchkgpdaa
namespace Go.Proofs.Ytagclnmchkgpdaa
open Go.RowKit
def dueL (s : Sta) (k : Nat) : List Int := ((List.range k).filter fun j => dueB (s.tid j)).map fun (j : Nat) => (j : Int)
noncomputable def dueS (s : Sta) : List Int := if mayS s = true then dueL s 3 else []
theorem dueL_succ (s : Sta) (k : Nat) : dueL s (k + 1) = dueL s k ++ (if dueB (s.tid k) = true then [(k : Int)] else []) := by
  unfold dueL
  rw [List.range_succ, List.filter_append, List.map_append]
  congr 1
  by_cases h : dueB (s.tid k) = true
  · rw [if_pos h]; simp [List.filter, h]
  · rw [if_neg h]; simp [List.filter, h]
theorem dueL_len (s : Sta) : ∀ k, (dueL s k).length ≤ k
  | 0 => Nat.le_refl 0
  | k + 1 => by
    rw [dueL_succ, List.length_append]
    have := dueL_len s k
    by_cases h : dueB (s.tid k) = true
    · rw [if_pos h]; simp; omega
    · rw [if_neg h]; simp; omega
/-- A slice of numbers that is returned. -/
def IntsPost (l : List Int) (w : World) (e : Ending) (w' : World) : Prop :=
  ∃ A c, e = .returned (.slice A l.length c) ∧ Reads w' w'.heap.size 1 A l.length (cellsI .i64 l) ∧ Below w.heap.size w w'
theorem reads_newS (w : World) (t : TypeId) (l : List Int) : Reads (w.alloc (.cells (cellsI .i64 l).toArray t)) (w.heap.size + 1) 1 (some ⟨w.heap.size, 0, none⟩) l.length (cellsI .i64 l) := by
  refine ⟨by rw [length_cellsI, Nat.mul_one], fun _ => ⟨_, rfl, Nat.lt_succ_self _, fun j u hu => ?_⟩⟩
  rw [add_none, Nat.zero_add]
  have := (Blk.new w t (cellsI .i64 l).toArray).cell j
  rw [this]
  simpa using hu
section
attribute [-go_sem] loadCells storeVar
set_option maxRecDepth 100000 in
set_option maxHeartbeats 8000000 in
theorem cDue_any (s : Sta) (a : Sad) (w : World) (h : StR w w.heap.size s a) :
    Calls Try.prog 18 #[.agg (stX s a)] w (IntsPost (dueS s) w) := by
  obtain ⟨W0, hW0⟩ : ∃ W0, W0 = w.alloc (.cells (stX s a) 31) := ⟨_, rfl⟩
  have s0 : W0.heap.size = w.heap.size + 1 := by rw [hW0]; simp
  have B0 : Below w.heap.size w W0 := by rw [hW0]; exact bal (Below.refl _ _) _
  have K1 : Blk W0 w.heap.size 31 (stX s a) := by rw [hW0]; exact Blk.new w 31 (stX s a)
  have HW := Lib.hid hW0
  have HS := Lib.hid s0
  have HB := Lib.hid B0
  have HK := Lib.hid K1
  have L31 := st_load K1
  have MY := Lib.hid (mMay_any s a w.heap.size W0 (h.below B0) B0.size)
  obtain ⟨i0, hi0, hz0, hz1, hz2⟩ := info_parts infoI
  clear hW0 s0 B0 K1 h
  go_enter Try.func18, Try.ntmps18
  go_upto_region 1 with (fail)
  rw [← HW.out]
  go_wp2_with fail
  cases hm : mayS s
  · rw [hm] at MY
    have HD := Lib.hid (show dueS s = [] by unfold dueS; rw [hm, if_neg (by decide)])
    clear hm
    refine MY.out.mono ?_
    rintro e w1 ⟨rfl, b1⟩
    have BB := Lib.hid (HB.out.trans (b1.mono HB.out.size))
    clear b1 L31
    go_wp2_with fail
    go_ret
    rw [HD.out]
    exact ⟨none, 0, rfl, Reads.none_, BB.out⟩
  rw [hm] at MY
  have HD := Lib.hid (show dueS s = dueL s 3 by unfold dueS; rw [hm, if_pos rfl])
  clear hm
  refine MY.out.mono ?_
  rintro e w1 ⟨rfl, b1⟩
  have B1 := Lib.hid b1
  have HK1 := Lib.hid (HK.out.below b1 HK.out.lt)
  have HB1 := Lib.hid (HB.out.trans (b1.mono HB.out.size))
  have x1 := st_tids HK1.out
  clear b1 L31
  go_wp2_with fail
  clear x1
  go_loopg [3, 11] 3 (fun mm yOUT yK wq => ∃ (k : Nat) (A : Option Addr) (cc : Nat), k ≤ 3 ∧ yK = .int .i64 k ∧ yOUT = .slice A (dueL s k).length cc ∧ mm = 3 - k ∧ wq.ownsRow w1.heap.size 3 1 (.slice A (dueL s k).length cc) (dueL s k).length (cellsI .i64 (dueL s k)) ∧ Below w1.heap.size w1 wq)
  case atStart => exact ⟨0, none, 0, by omega, rfl, rfl, rfl, World.ownsRow_nil _ _ _ _, Below.refl _ _⟩
  case round =>
    obtain ⟨k, A, cc, hk, rfl, rfl, hmm, hown, hbw⟩ := hrel
    have HMM := Lib.hid hmm
    have OW := Lib.hid hown
    have BW' := Lib.hid hbw
    clear hmm hown hbw
    by_cases hlt : k < 3
    · have d3 : decide ((k : Int) < 3) = true := decide_eq_true (by omega)
      have i1 : (0 : Int) ≤ (k : Int) := by omega
      have i2 : (k : Int) < 3 := by omega
      have hln := dueL_len s k
      obtain ⟨ou, hou⟩ : ∃ ou, ou = dueL s k := ⟨_, rfl⟩
      rw [← hou] at OW hln ⊢
      have HO := Lib.hid hou
      clear hou
      have ix := st_index s a k hlt wr
      obtain ⟨W2, st2, k2, b2, s2⟩ := bk_fresh (P := Try.prog) wr 26 #[.int .i8 0, .int .i64 0, .int .i64 0, .int .i64 0, .int .i64 0, .slice none 0 0, .slice none 0 0, .int .i64 0] #[.int .i8 (s.tid k).st, .int .i64 (s.tid k).pid, .int .i64 (s.tid k).ep, .int .i64 (s.tid k).tm, .int .i64 (s.tid k).th, .slice (a.A k) (s.tid k).ps.length (a.c k), .slice (a.D k) (s.tid k).qs.length (a.e k), .int .i64 (s.tid k).ag] 8 infoCoS rfl rfl (by simp [Value.oneCell'])
      have L2 := bk_load (P := Try.prog) 8 k2 rfl
      have B2 := Lib.hid b2
      have OW2 := Lib.hid (own_below OW.out b2)
      clear k2 b2 s2
      obtain ⟨u, hu⟩ : ∃ u, dueB (s.tid k) = u := ⟨_, rfl⟩
      have DU := Lib.hid (Due_any (s.tid k) (a.A k) (a.D k) (a.c k) (a.e k) W2)
      rw [hu] at DU
      have HU := Lib.hid hu
      clear hu
      go_wp2_with fail
      refine DU.out.mono ?_
      rintro e w5 ⟨rfl, b5⟩
      have B5 := Lib.hid (B2.out.trans (b5.mono B2.out.size))
      have OW5 := Lib.hid (own_below OW2.out b5)
      clear b5 ix L2 st2
      cases u
      · go_wp2_with fail
        go_roundg (gk - 1)
        case measure => have := HMM.out; omega
        case rel =>
          have e : dueL s (k + 1) = ou := by rw [dueL_succ, HU.out, if_neg (by decide), List.append_nil, ← HO.out]
          refine ⟨k + 1, A, cc, by omega, by go_num, by rw [e], by have := HMM.out; omega, ?_, BW'.out.trans (B5.out.mono BW'.out.size)⟩
          rw [e]
          exact OW5.out
      · go_wp2_with (at_builtin; refine wpList_append_any _ rfl (.tmp 17) (.tmp 19) 23 rfl w1.heap.size 3 i0 (.int .i64 0) 1 8 Try.underlying23 hi0 hz0 hz1 hz2 rfl (by decide) (.slice A ou.length cc) ou.length (cellsI .i64 ou) (by rfl) (OW5.out.alloc _) (w5.heap.size + 1) (some ⟨w5.heap.size, 0, none⟩) 1 1 (cellsI .i64 [(k : Int)]) (by rfl) (reads_newS w5 3 [(k : Int)]) (cellsI_one _) (by unfold maxLen; omega) (by omega) (by rw [World.size_alloc]; have := BW'.out.size; have := B5.out.size; omega) ?_; intro v7 w7 hown7 hg7 hat7; have B7 := Lib.hid ((bal (Below.refl w5.heap.size w5) (.cells (cellsI .i64 [(k : Int)]).toArray 3))); have B8 := Lib.hid (((BW'.out.trans (B5.out.mono BW'.out.size)).trans (B7.out.mono (by have := BW'.out.size; have := B5.out.size; omega))).grown hg7 (by rw [World.size_alloc]; have := BW'.out.size; have := B5.out.size; omega) (fun y hy => (OW5.out.lt y hy).1)); obtain ⟨ou7, hl7⟩ : ∃ l, l = ou ++ [(k : Int)] := ⟨_, rfl⟩; have hn7 : ou.length + 1 = ou7.length := (by simp [hl7]); rw [hn7, show cellsI .i64 ou ++ cellsI .i64 [(k : Int)] = cellsI .i64 ou7 by simp [hl7, cellsI]] at hown7; obtain ⟨A7, c7, rfl, hc7⟩ := own_slice hown7; have OW7 := Lib.hid hown7; have HL7 := Lib.hid hl7; clear hown7 hg7 hat7 hl7 hn7 hc7)
        go_roundg (gk - 1)
        case measure => have := HMM.out; omega
        case rel =>
          have e : dueL s (k + 1) = ou7 := by rw [dueL_succ, HU.out, if_pos rfl, ← HO.out, HL7.out]
          refine ⟨k + 1, A7, c7, by omega, by go_num, by rw [e], by have := HMM.out; omega, ?_, B8.out⟩
          rw [e]
          exact OW7.out
    · obtain rfl : k = 3 := by omega
      have d3 : decide (((3 : Nat) : Int) < 3) = false := by decide
      go_wp2_with fail
      go_ret
      rw [HD.out]
      exact ⟨A, cc, rfl, Reads.of_own OW.out, HB1.out.trans (BW'.out.mono HB1.out.size)⟩
set_option maxRecDepth 100000 in
set_option maxHeartbeats 8000000 in
theorem rDueS_any (s : Sta) (a : Sad) (w : World) (h : StR w w.heap.size s a) (hb : StB s) :
    Calls Try.prog 19 #[.agg (stX s a)] w (IntsPost (dueS s) w) := by
  obtain ⟨W0, hW0⟩ : ∃ W0, W0 = w.alloc (.cells (stX s a) 31) := ⟨_, rfl⟩
  have s0 : W0.heap.size = w.heap.size + 1 := by rw [hW0]; simp
  have B0 : Below w.heap.size w W0 := by rw [hW0]; exact bal (Below.refl _ _) _
  have K1 : Blk W0 w.heap.size 31 (stX s a) := by rw [hW0]; exact Blk.new w 31 (stX s a)
  have HW := Lib.hid hW0
  have HS := Lib.hid s0
  have HB := Lib.hid B0
  have HK := Lib.hid K1
  have L31 := st_load K1
  have MY := Lib.hid (rMayS_any s a w.heap.size W0 (h.below B0) B0.size hb)
  obtain ⟨i0, hi0, hz0, hz1, hz2⟩ := info_parts infoI
  clear hW0 s0 B0 K1 h hb
  go_enter Try.func19, Try.ntmps19
  go_upto_region 1 with (fail)
  rw [← HW.out]
  go_wp2_with fail
  cases hm : mayS s
  · rw [hm] at MY
    have HD := Lib.hid (show dueS s = [] by unfold dueS; rw [hm, if_neg (by decide)])
    clear hm
    refine MY.out.mono ?_
    rintro e w1 ⟨rfl, b1⟩
    have BB := Lib.hid (HB.out.trans (b1.mono HB.out.size))
    clear b1 L31
    go_wp2_with fail
    go_ret
    rw [HD.out]
    exact ⟨none, 0, rfl, Reads.none_, BB.out⟩
  rw [hm] at MY
  have HD := Lib.hid (show dueS s = dueL s 3 by unfold dueS; rw [hm, if_pos rfl])
  clear hm
  refine MY.out.mono ?_
  rintro e w1 ⟨rfl, b1⟩
  have B1 := Lib.hid b1
  have HK1 := Lib.hid (HK.out.below b1 HK.out.lt)
  have HB1 := Lib.hid (HB.out.trans (b1.mono HB.out.size))
  clear b1 L31
  go_wp2_with fail
  go_loopg [3, 4] 3 (fun mm yOUT yK wq => ∃ (k : Nat) (A : Option Addr) (cc : Nat), k ≤ 3 ∧ yK = .int .i64 k ∧ yOUT = .slice A (dueL s k).length cc ∧ mm = 3 - k ∧ wq.ownsRow w1.heap.size 3 1 (.slice A (dueL s k).length cc) (dueL s k).length (cellsI .i64 (dueL s k)) ∧ Below w1.heap.size w1 wq)
  case atStart => exact ⟨0, none, 0, by omega, rfl, rfl, rfl, World.ownsRow_nil _ _ _ _, Below.refl _ _⟩
  case round =>
    obtain ⟨k, A, cc, hk, rfl, rfl, hmm, hown, hbw⟩ := hrel
    have HMM := Lib.hid hmm
    have OW := Lib.hid hown
    have BW' := Lib.hid hbw
    clear hmm hown hbw
    by_cases hlt : k < 3
    · have d3 : decide ((k : Int) < 3) = true := decide_eq_true (by omega)
      have i1 : (0 : Int) ≤ (k : Int) := by omega
      have i2 : (k : Int) < 3 := by omega
      have hln := dueL_len s k
      obtain ⟨ou, hou⟩ : ∃ ou, ou = dueL s k := ⟨_, rfl⟩
      rw [← hou] at OW hln ⊢
      have HO := Lib.hid hou
      clear hou
      have L2 := st_tid (HK1.out.below BW'.out HK1.out.lt) k hlt
      have B2 := Lib.hid (Below.refl wr.heap.size wr)
      obtain ⟨u, hu⟩ : ∃ u, dueB (s.tid k) = u := ⟨_, rfl⟩
      have DU := Lib.hid (rDue_any (s.tid k) (a.A k) (a.D k) (a.c k) (a.e k) wr)
      rw [hu] at DU
      have HU := Lib.hid hu
      clear hu
      go_wp2_with fail
      refine DU.out.mono ?_
      rintro e w5 ⟨rfl, b5⟩
      have B5 := Lib.hid (B2.out.trans (b5.mono B2.out.size))
      have OW5 := Lib.hid (own_below OW.out b5)
      clear b5 L2
      cases u
      · go_wp2_with fail
        go_roundg (gk - 1)
        case measure => have := HMM.out; omega
        case rel =>
          have e : dueL s (k + 1) = ou := by rw [dueL_succ, HU.out, if_neg (by decide), List.append_nil, ← HO.out]
          refine ⟨k + 1, A, cc, by omega, by go_num, by rw [e], by have := HMM.out; omega, ?_, BW'.out.trans (B5.out.mono BW'.out.size)⟩
          rw [e]
          exact OW5.out
      · go_wp2_with (at_builtin; refine wpList_append_any _ rfl (.tmp 17) (.tmp 19) 23 rfl w1.heap.size 3 i0 (.int .i64 0) 1 8 Try.underlying23 hi0 hz0 hz1 hz2 rfl (by decide) (.slice A ou.length cc) ou.length (cellsI .i64 ou) (by rfl) (OW5.out.alloc _) (w5.heap.size + 1) (some ⟨w5.heap.size, 0, none⟩) 1 1 (cellsI .i64 [(k : Int)]) (by rfl) (reads_newS w5 3 [(k : Int)]) (cellsI_one _) (by unfold maxLen; omega) (by omega) (by rw [World.size_alloc]; have := BW'.out.size; have := B5.out.size; omega) ?_; intro v7 w7 hown7 hg7 hat7; have B7 := Lib.hid ((bal (Below.refl w5.heap.size w5) (.cells (cellsI .i64 [(k : Int)]).toArray 3))); have B8 := Lib.hid (((BW'.out.trans (B5.out.mono BW'.out.size)).trans (B7.out.mono (by have := BW'.out.size; have := B5.out.size; omega))).grown hg7 (by rw [World.size_alloc]; have := BW'.out.size; have := B5.out.size; omega) (fun y hy => (OW5.out.lt y hy).1)); obtain ⟨ou7, hl7⟩ : ∃ l, l = ou ++ [(k : Int)] := ⟨_, rfl⟩; have hn7 : ou.length + 1 = ou7.length := (by simp [hl7]); rw [hn7, show cellsI .i64 ou ++ cellsI .i64 [(k : Int)] = cellsI .i64 ou7 by simp [hl7, cellsI]] at hown7; obtain ⟨A7, c7, rfl, hc7⟩ := own_slice hown7; have OW7 := Lib.hid hown7; have HL7 := Lib.hid hl7; clear hown7 hg7 hat7 hl7 hn7 hc7)
        go_roundg (gk - 1)
        case measure => have := HMM.out; omega
        case rel =>
          have e : dueL s (k + 1) = ou7 := by rw [dueL_succ, HU.out, if_pos rfl, ← HO.out, HL7.out]
          refine ⟨k + 1, A7, c7, by omega, by go_num, by rw [e], by have := HMM.out; omega, ?_, B8.out⟩
          rw [e]
          exact OW7.out
    · obtain rfl : k = 3 := by omega
      have d3 : decide (((3 : Nat) : Int) < 3) = false := by decide
      go_wp2_with fail
      go_ret
      rw [HD.out]
      exact ⟨A, cc, rfl, Reads.of_own OW.out, HB1.out.trans (BW'.out.mono HB1.out.size)⟩
end
end Go.Proofs.Ytagclnmchkgpdaa
