/-
  Layer 21: the oldest transaction: by the program and by the document.
-/
import Derived.Test.YtagclnmchkgpdaaGrp15
set_option linter.unusedVariables false
set_option linter.unusedSimpArgs false
namespace Go.Proofs.Ytagclnmchkgpdaa
open Go.RowKit
def oldStep (s : Sta) (b : Option Nat) (k : Nat) : Option Nat := match b with | none => some k | some y => if (s.tid y).ag < (s.tid k).ag then some k else some y
def oldF (s : Sta) : Nat → Option Nat
  | 0 => none
  | k + 1 => if ((s.tid k).st == 2) = true then oldStep s (oldF s k) k else oldF s k
theorem oldStep_lt {s : Sta} {b : Option Nat} {k y n : Nat} (h : ∀ z, b = some z → z < n) (hk : k < n) (e : oldStep s b k = some y) : y < n := by
  unfold oldStep at e
  cases b with
  | none => injection e with e; omega
  | some z =>
    have := h z rfl
    simp only at e
    split at e
    · injection e with e; omega
    · injection e with e; omega
theorem oldF_lt (s : Sta) : ∀ k y, oldF s k = some y → y < k
  | 0, y, h => by cases h
  | k + 1, y, h => by
    unfold oldF at h
    split at h
    · exact oldStep_lt (fun z hz => Nat.lt_succ_of_lt (oldF_lt s k z hz)) (Nat.lt_succ_self k) h
    · exact Nat.lt_succ_of_lt (oldF_lt s k y h)
def ongL (s : Sta) (k : Nat) : List Nat := (List.range k).filter fun j => (s.tid j).st == 2
theorem ongL_succ (s : Sta) (k : Nat) : ongL s (k + 1) = ongL s k ++ (if ((s.tid k).st == 2) = true then [k] else []) := by
  unfold ongL
  rw [List.range_succ, List.filter_append]
  congr 1
  by_cases h : ((s.tid k).st == 2) = true
  · rw [if_pos h]; simp [List.filter, h]
  · rw [if_neg h]; simp [List.filter, h]
theorem ongL_len (s : Sta) : ∀ k, (ongL s k).length ≤ k
  | 0 => Nat.le_refl 0
  | k + 1 => by
    rw [ongL_succ, List.length_append]
    have := ongL_len s k
    by_cases h : ((s.tid k).st == 2) = true
    · rw [if_pos h]; simp; omega
    · rw [if_neg h]; simp; omega
theorem ongL_lt (s : Sta) (k x : Nat) (h : x ∈ ongL s k) : x < k := by
  unfold ongL at h
  rw [List.mem_filter] at h
  exact List.mem_range.1 h.1
def grF (s : Sta) (l : List Nat) : Option Nat := l.foldl (oldStep s) none
theorem grF_snoc (s : Sta) (l : List Nat) (x : Nat) : grF s (l ++ [x]) = oldStep s (grF s l) x := by
  unfold grF
  rw [List.foldl_append]
  rfl
theorem grF_old (s : Sta) : ∀ k, grF s (ongL s k) = oldF s k
  | 0 => rfl
  | k + 1 => by
    rw [ongL_succ]
    by_cases h : ((s.tid k).st == 2) = true
    · rw [if_pos h, grF_snoc, grF_old s k]
      show _ = if ((s.tid k).st == 2) = true then oldStep s (oldF s k) k else oldF s k
      rw [if_pos h]
    · rw [if_neg h, List.append_nil, grF_old s k]
      show _ = if ((s.tid k).st == 2) = true then oldStep s (oldF s k) k else oldF s k
      rw [if_neg h]
theorem grF_none {s : Sta} : ∀ {l : List Nat}, grF s l = none → l = []
  | [], _ => rfl
  | l, h => by
    rcases List.eq_nil_or_concat l with rfl | ⟨m, x, rfl⟩
    · rfl
    · rw [List.concat_eq_append, grF_snoc] at h
      unfold oldStep at h
      split at h
      · cases h
      · split at h <;> cases h
theorem fold_mem {s : Sta} {n : Nat} : ∀ (l : List Nat) (b : Option Nat), (∀ z, b = some z → z < n) → (∀ x ∈ l, x < n) → ∀ y, l.foldl (oldStep s) b = some y → y < n
  | [], b, hb, _, y, h => hb y h
  | x :: l, b, hb, hl, y, h => fold_mem l (oldStep s b x) (fun z hz => oldStep_lt hb (hl x List.mem_cons_self) hz) (fun q hq => hl q (List.mem_cons_of_mem _ hq)) y h
theorem grF_mem {s : Sta} {n : Nat} (l : List Nat) (hl : ∀ x ∈ l, x < n) (y : Nat) (h : grF s l = some y) : y < n := fold_mem l none (fun z hz => by cases hz) hl y h
def natI (l : List Nat) : List Int := l.map fun (j : Nat) => (j : Int)
theorem natI_len (l : List Nat) : (natI l).length = l.length := by simp [natI]
section
attribute [-go_sem] loadCells storeVar
set_option maxRecDepth 100000 in
set_option maxHeartbeats 4000000 in
theorem less_any (s : Sta) (a : Sad) (b : Nat) (y x : Nat) (hy : y < 3) (hx : x < 3) (w : World) (hK : Blk w b 31 (stX s a)) (hb : b < w.heap.size) :
    Calls Try.prog 26 #[.int .i64 y, .int .i64 x, .pointer (some ⟨b, 0, none⟩)] w fun e w' => e = .returned (.bool (decide ((s.tid y).ag < (s.tid x).ag))) ∧ Below w.heap.size w w' := by
  have y1 : (0 : Int) ≤ (y : Int) := by omega
  have y2 : (y : Int) < 3 := by omega
  have x1 : (0 : Int) ≤ (x : Int) := by omega
  have x2 : (x : Int) < 3 := by omega
  have cy : ∀ n : BW w.heap.size w, n.1.cell? ⟨b, 1 + y * 8 + 7, none⟩ = some (.int .i64 (s.tid y).ag) := fun n => st_cell (hK.below n.2 hb) y hy (j := 7) rfl
  have cx : ∀ n : BW w.heap.size w, n.1.cell? ⟨b, 1 + x * 8 + 7, none⟩ = some (.int .i64 (s.tid x).ag) := fun n => st_cell (hK.below n.2 hb) x hx (j := 7) rfl
  clear hK hb
  go_enter Try.func26, Try.ntmps26
  go_wp2_with fail
  refine wp_region_bq w.heap.size (by kernel_rfl) (by kernel_rfl) ?_
  repeat (go_big_quiet_step (fail))
  refine wpQuiet_nil ?_
  rintro _ ⟨n, rfl⟩
  have BN := Lib.hid n.2
  clear cy cx
  go_wp2_with fail
  go_ret
  exact ⟨rfl, BN.out⟩
set_option maxRecDepth 100000 in
set_option maxHeartbeats 8000000 in
theorem greatest_any (s : Sta) (a : Sad) (b : Nat) (l : List Nat) (hl : ∀ x ∈ l, x < 3) (hn : l.length ≤ 3) (A : Option Addr) (cc B : Nat) (w : World) (hR : Reads w B 1 A l.length (cellsI .i64 (natI l))) (hB : B ≤ w.heap.size) (hK : Blk w b 31 (stX s a)) (hb : b < w.heap.size) :
    Calls Try.prog 25 #[.slice A l.length cc, .func (.func 26) #[] #[.pointer (some ⟨b, 0, none⟩)]] w fun e w' => e = .returned (.tuple #[.int .i64 ((grF s l).getD 0 : Nat), .bool (grF s l).isSome]) ∧ Below w.heap.size w w' := by
  have HR := Lib.hid hR
  have HB := Lib.hid hB
  have HK := Lib.hid hK
  have HBB := Lib.hid hb
  have HL := Lib.hid hl
  clear hR hB hK hb hl
  go_enter Try.func25, Try.ntmps25
  go_wp2_with fail
  go_loopg [6, 11] l.length (fun mm yB yK wq => ∃ (k : Nat), k ≤ l.length ∧ yK = .int .i64 k ∧ yB = .int .i64 ((grF s (l.take k)).getD 0 : Nat) ∧ mm = l.length - k ∧ Below w.heap.size w wq)
  case atStart => exact ⟨0, Nat.zero_le _, rfl, rfl, by omega, Below.refl _ _⟩
  case round =>
    obtain ⟨k, hk, rfl, rfl, hmm, hbw⟩ := hrel
    have HMM := Lib.hid hmm
    have BW' := Lib.hid hbw
    clear hmm hbw
    by_cases hlt : k < l.length
    · have d3 : decide ((k : Int) < (l.length : Int)) = true := decide_eq_true (by omega)
      have i1 : (0 : Int) ≤ (k : Int) := by omega
      have i2 : (k : Int) < (l.length : Int) := by omega
      obtain ⟨x, hx⟩ : ∃ x, l[k]? = some x := ⟨_, List.getElem?_eq_getElem hlt⟩
      have hx3 : x < 3 := HL.out x (List.mem_of_getElem? hx)
      have htk : l.take (k + 1) = l.take k ++ [x] := by
        rw [List.take_add_one, hx]; rfl
      obtain ⟨b1, o1, rfl, hb1, hc1⟩ := HR.out.plain (by omega)
      have ce : wr.cell? ⟨b1, o1 + k, none⟩ = some (.int .i64 (x : Int)) := by
        rw [BW'.out.cell (by show b1 < w.heap.size; have := HB.out; omega)]
        exact hc1 k _ (by rw [getElem?_cellsI]; unfold natI; rw [List.getElem?_map, hx]; rfl)
      obtain ⟨q, hq⟩ : ∃ q, grF s (l.take k) = q := ⟨_, rfl⟩
      have hq1 : grF s (l.take (k + 1)) = oldStep s q x := by rw [htk, grF_snoc, hq]
      rw [hq]
      have HQ := Lib.hid hq
      have HQ1 := Lib.hid hq1
      clear hq hq1 htk hc1 hx
      cases q with
      | none =>
        have hk0 : k = 0 := by
          have h1 := grF_none HQ.out
          have h2 := congrArg List.length h1
          rw [List.length_take] at h2
          simp only [List.length_nil] at h2
          omega
        subst hk0
        have ce0 : wr.cell? ⟨b1, o1, none⟩ = some (.int .i64 (x : Int)) := ce
        have j1 : (0 : Int) < (l.length : Int) := by omega
        clear ce
        go_wp2_with fail
        go_roundg (gk - 1)
        case measure => have := HMM.out; omega
        case rel => exact ⟨1, by omega, by go_num, by rw [HQ1.out]; rfl, by have := HMM.out; omega, BW'.out⟩
      | some y =>
        have hy3 : y < 3 := grF_mem (l.take k) (fun z hz => HL.out z (List.mem_of_mem_take hz)) y HQ.out
        have hk0 : ¬ k = 0 := fun h => by have := HQ.out; rw [h] at this; cases this
        have dk : ((k : Int) == 0) = false := by simpa using hk0
        have LS := Lib.hid (less_any s a b y x hy3 hx3 wr (HK.out.below BW'.out HBB.out) (by have := BW'.out.size; have := HBB.out; omega))
        obtain ⟨u, hu⟩ : ∃ u, decide ((s.tid y).ag < (s.tid x).ag) = u := ⟨_, rfl⟩
        rw [hu] at LS
        have HU := Lib.hid hu
        clear hu hk0
        go_wp2_with fail
        refine LS.out.mono ?_
        rintro e w5 ⟨rfl, b5⟩
        have B5 := Lib.hid (BW'.out.trans (b5.mono BW'.out.size))
        clear b5 ce
        cases u
        · go_wp2_with fail
          go_roundg (gk - 1)
          case measure => have := HMM.out; omega
          case rel =>
            refine ⟨k + 1, by omega, by go_num, ?_, by have := HMM.out; omega, B5.out⟩
            rw [HQ1.out]
            show _ = Value.int .i64 (((if (s.tid y).ag < (s.tid x).ag then some x else some y).getD 0 : Nat) : Int)
            rw [if_neg (of_decide_eq_false HU.out)]
            rfl
        · go_wp2_with fail
          go_roundg (gk - 1)
          case measure => have := HMM.out; omega
          case rel =>
            refine ⟨k + 1, by omega, by go_num, ?_, by have := HMM.out; omega, B5.out⟩
            rw [HQ1.out]
            show _ = Value.int .i64 (((if (s.tid y).ag < (s.tid x).ag then some x else some y).getD 0 : Nat) : Int)
            rw [if_pos (of_decide_eq_true HU.out)]
            rfl
    · obtain rfl : k = l.length := by omega
      have d3 : decide ((l.length : Int) < (l.length : Int)) = false := by simp
      obtain ⟨v, hv⟩ : ∃ v, decide ((0 : Int) < (l.length : Int)) = v := ⟨_, rfl⟩
      have HV := Lib.hid (show (grF s l).isSome = v by
        rw [← hv]
        cases hg : grF s l with
        | none =>
          have := grF_none hg
          rw [this]; rfl
        | some y =>
          have : 0 < l.length := by
            rcases Nat.eq_zero_or_pos l.length with h0 | h0
            · rw [List.eq_nil_of_length_eq_zero h0] at hg; cases hg
            · exact h0
          rw [decide_eq_true (by omega)]; rfl)
      have HT := Lib.hid (show l.take l.length = l from List.take_length)
      obtain ⟨G, hG⟩ : ∃ G, G = grF s l := ⟨_, rfl⟩
      have HG := Lib.hid hG
      rw [HT.out, ← hG]
      rw [← hG] at HV
      have hv2 : decide (0 < l.length) = v := by rw [← hv]; simp
      have HV2 := Lib.hid hv2
      clear hG hv hv2
      go_wp2_with fail
      refine bodyPost_ret (v := .tuple #[.int .i64 (G.getD 0 : Nat), .bool v]) (by simp [results, Try.results25, go_sem, HV2.out]) rfl ?_
      rw [← HG.out, HV.out]
      exact ⟨rfl, BW'.out⟩
set_option maxRecDepth 100000 in
set_option maxHeartbeats 8000000 in
theorem cOld_any (s : Sta) (a : Sad) (w : World) :
    Calls Try.prog 10 #[.agg (stX s a)] w fun e w' => e = .returned (.tuple #[.int .i64 ((oldF s 3).getD 0 : Nat), .bool (oldF s 3).isSome]) ∧ Below w.heap.size w w' := by
  obtain ⟨W0, hW0⟩ : ∃ W0, W0 = w.alloc (.cells (stX s a) 31) := ⟨_, rfl⟩
  have s0 : W0.heap.size = w.heap.size + 1 := by rw [hW0]; simp
  have B0 : Below w.heap.size w W0 := by rw [hW0]; exact bal (Below.refl _ _) _
  have K1 : Blk W0 w.heap.size 31 (stX s a) := by rw [hW0]; exact Blk.new w 31 (stX s a)
  have HW := Lib.hid hW0
  have HS := Lib.hid s0
  have HB := Lib.hid B0
  have HK := Lib.hid K1
  have x1 := st_tids K1
  obtain ⟨i0, hi0, hz0, hz1, hz2⟩ := info_parts infoI
  clear hW0 s0 B0 K1
  go_enter Try.func10, Try.ntmps10
  go_upto_region 1 with (fail)
  rw [← HW.out]
  go_wp2_with fail
  clear x1
  go_loopg [4, 9] 3 (fun mm yOUT yK wq => ∃ (k : Nat) (A : Option Addr) (cc : Nat), k ≤ 3 ∧ yK = .int .i64 k ∧ yOUT = .slice A (ongL s k).length cc ∧ mm = 3 - k ∧ wq.ownsRow W0.heap.size 3 1 (.slice A (ongL s k).length cc) (ongL s k).length (cellsI .i64 (natI (ongL s k))) ∧ Below W0.heap.size W0 wq)
  case atStart => exact ⟨0, none, 0, by omega, rfl, rfl, rfl, World.ownsRow_nil _ _ _ _, Below.refl _ _⟩
  case round =>
    obtain ⟨k, A, cc, hk, rfl, rfl, hmm, hown, hbw⟩ := hrel
    have HMM := Lib.hid hmm
    have OW := Lib.hid hown
    have BW' := Lib.hid hbw
    clear hmm hown hbw
    by_cases hlt : k < 3
    · have d3 : decide ((k : Int) < 3) = true := decide_eq_true (by omega)
      have i1 : (0 : Int) ≤ (k : Int) := by omega
      have i2 : (k : Int) < 3 := by omega
      have hln := ongL_len s k
      obtain ⟨ou, hou⟩ : ∃ ou, ou = ongL s k := ⟨_, rfl⟩
      rw [← hou] at OW hln ⊢
      have HO := Lib.hid hou
      clear hou
      have ix := st_index s a k hlt wr
      obtain ⟨W2, st2, k2, b2, s2⟩ := bk_fresh (P := Try.prog) wr 26 #[.int .i8 0, .int .i64 0, .int .i64 0, .int .i64 0, .int .i64 0, .slice none 0 0, .slice none 0 0, .int .i64 0] #[.int .i8 (s.tid k).st, .int .i64 (s.tid k).pid, .int .i64 (s.tid k).ep, .int .i64 (s.tid k).tm, .int .i64 (s.tid k).th, .slice (a.A k) (s.tid k).ps.length (a.c k), .slice (a.D k) (s.tid k).qs.length (a.e k), .int .i64 (s.tid k).ag] 8 infoCoS rfl rfl (by simp [Value.oneCell'])
      have y0 := k2.cell 0
      have B2 := Lib.hid b2
      have OW2 := Lib.hid (own_below OW.out b2)
      clear k2 b2 s2
      obtain ⟨u, hu⟩ : ∃ u, ((s.tid k).st == 2) = u := ⟨_, rfl⟩
      have HU := Lib.hid hu
      cases u
      · go_wp2_with fail
        go_roundg (gk - 1)
        case measure => have := HMM.out; omega
        case rel =>
          have e : ongL s (k + 1) = ou := by rw [ongL_succ, HU.out, if_neg (by decide), List.append_nil, ← HO.out]
          refine ⟨k + 1, A, cc, by omega, by go_num, by rw [e], by have := HMM.out; omega, ?_, BW'.out.trans (B2.out.mono BW'.out.size)⟩
          rw [e]
          exact OW2.out
      · go_wp2_with (at_builtin; clear ix y0; refine wpList_append_any _ rfl (.tmp 16) (.tmp 18) 23 rfl W0.heap.size 3 i0 (.int .i64 0) 1 8 Try.underlying23 hi0 hz0 hz1 hz2 rfl (by decide) (.slice A ou.length cc) ou.length (cellsI .i64 (natI ou)) (by rfl) (OW2.out.alloc _) (W2.heap.size + 1) (some ⟨W2.heap.size, 0, none⟩) 1 1 (cellsI .i64 [(k : Int)]) (by rfl) (reads_newS W2 3 [(k : Int)]) (cellsI_one _) (by unfold maxLen; omega) (by omega) (by rw [World.size_alloc]; have := BW'.out.size; have := B2.out.size; omega) ?_; intro v7 w7 hown7 hg7 hat7; have B7 := Lib.hid ((bal (Below.refl W2.heap.size W2) (.cells (cellsI .i64 [(k : Int)]).toArray 3))); have B8 := Lib.hid (((BW'.out.trans (B2.out.mono BW'.out.size)).trans (B7.out.mono (by have := BW'.out.size; have := B2.out.size; omega))).grown hg7 (by rw [World.size_alloc]; have := BW'.out.size; have := B2.out.size; omega) (fun y hy => (OW2.out.lt y hy).1)); obtain ⟨ou7, hl7⟩ : ∃ l, l = ou ++ [k] := ⟨_, rfl⟩; have hn7 : ou.length + 1 = ou7.length := (by simp [hl7]); rw [hn7, show cellsI .i64 (natI ou) ++ cellsI .i64 [(k : Int)] = cellsI .i64 (natI ou7) by simp [hl7, cellsI, natI]] at hown7; obtain ⟨A7, c7, rfl, hc7⟩ := own_slice hown7; have OW7 := Lib.hid hown7; have HL7 := Lib.hid hl7; clear hown7 hg7 hat7 hl7 hn7 hc7)
        go_roundg (gk - 1)
        case measure => have := HMM.out; omega
        case rel =>
          have e : ongL s (k + 1) = ou7 := by rw [ongL_succ, HU.out, if_pos rfl, ← HO.out, HL7.out]
          refine ⟨k + 1, A7, c7, by omega, by go_num, by rw [e], by have := HMM.out; omega, ?_, B8.out⟩
          rw [e]
          exact OW7.out
    · obtain rfl : k = 3 := by omega
      have d3 : decide (((3 : Nat) : Int) < 3) = false := by decide
      have hl3 : ∀ x ∈ ongL s 3, x < 3 := fun x hx => ongL_lt s 3 x hx
      have hn3 := ongL_len s 3
      have GR := Lib.hid (greatest_any s a w.heap.size (ongL s 3) hl3 hn3 A cc wr.heap.size wr (Reads.of_own OW.out) (Nat.le_refl _) (HK.out.below BW'.out HK.out.lt) (by have := HS.out; have := BW'.out.size; omega))
      rw [grF_old] at GR
      clear hl3 hn3
      go_wp2_with fail
      refine GR.out.mono ?_
      rintro e w5 ⟨rfl, b5⟩
      have B5 := Lib.hid (HB.out.trans ((BW'.out.trans (b5.mono BW'.out.size)).mono HB.out.size))
      clear b5
      go_wp2_with fail
      refine bodyPost_ret (v := .tuple #[.int .i64 ((oldF s 3).getD 0 : Nat), .bool (oldF s 3).isSome]) (by simp [results, Try.results10, go_sem]) rfl ?_
      exact ⟨rfl, B5.out⟩
set_option maxRecDepth 100000 in
set_option maxHeartbeats 8000000 in
theorem rOld_any (s : Sta) (a : Sad) (w : World) :
    Calls Try.prog 11 #[.agg (stX s a)] w fun e w' => e = .returned (.tuple #[.int .i64 ((oldF s 3).getD 0 : Nat), .bool (oldF s 3).isSome]) ∧ Below w.heap.size w w' := by
  obtain ⟨W0, hW0⟩ : ∃ W0, W0 = w.alloc (.cells (stX s a) 31) := ⟨_, rfl⟩
  have s0 : W0.heap.size = w.heap.size + 1 := by rw [hW0]; simp
  have B0 : Below w.heap.size w W0 := by rw [hW0]; exact bal (Below.refl _ _) _
  have K1 : Blk W0 w.heap.size 31 (stX s a) := by rw [hW0]; exact Blk.new w 31 (stX s a)
  have HW := Lib.hid hW0
  have HS := Lib.hid s0
  have HB := Lib.hid B0
  have HK := Lib.hid K1
  clear hW0 s0 B0 K1
  go_enter Try.func11, Try.ntmps11
  go_upto_region 1 with (fail)
  rw [← HW.out]
  go_wp2_with fail
  go_loopg [4, 5, 6] 3 (fun mm yB yO yK wq => ∃ (k : Nat), k ≤ 3 ∧ yK = .int .i64 k ∧ yB = .int .i64 ((oldF s k).getD 0 : Nat) ∧ yO = .bool (oldF s k).isSome ∧ mm = 3 - k ∧ Below W0.heap.size W0 wq)
  case atStart => exact ⟨0, by omega, rfl, rfl, rfl, rfl, Below.refl _ _⟩
  case round =>
    obtain ⟨k, hk, rfl, rfl, rfl, hmm, hbw⟩ := hrel
    have HMM := Lib.hid hmm
    have BW' := Lib.hid hbw
    clear hmm hbw
    by_cases hlt : k < 3
    · have d3 : decide ((k : Int) < 3) = true := decide_eq_true (by omega)
      have i1 : (0 : Int) ≤ (k : Int) := by omega
      have i2 : (k : Int) < 3 := by omega
      have KW := Lib.hid (HK.out.below BW'.out HK.out.lt)
      have c0 : ∀ n : BW wr.heap.size wr, n.1.cell? ⟨w.heap.size, 1 + k * 8, none⟩ = some (.int .i8 (s.tid k).st) := fun n => st_cell (KW.out.below n.2 KW.out.lt) k hlt (j := 0) rfl
      have c7 : ∀ n : BW wr.heap.size wr, n.1.cell? ⟨w.heap.size, 1 + k * 8 + 7, none⟩ = some (.int .i64 (s.tid k).ag) := fun n => st_cell (KW.out.below n.2 KW.out.lt) k hlt (j := 7) rfl
      obtain ⟨q, hq⟩ : ∃ q, oldF s k = q := ⟨_, rfl⟩
      rw [hq]
      have HQ := Lib.hid hq
      obtain ⟨u, hu⟩ : ∃ u, ((s.tid k).st == 2) = u := ⟨_, rfl⟩
      have HN := Lib.hid (show oldF s (k + 1) = if u = true then oldStep s q k else q by rw [← hu, ← hq]; rfl)
      clear hq
      cases u
      · cases q
        all_goals
          go_wp2_with fail
          refine wp_region_bq wr.heap.size (by kernel_rfl) (by kernel_rfl) ?_
          repeat (go_big_quiet_step (fail))
          refine wpQuiet_nil ?_
          rintro _ ⟨n, rfl⟩
          have BN := Lib.hid n.2
          clear c0 c7
          go_wp2_with fail
          go_roundg (gk - 1)
          case measure => have := HMM.out; omega
          case rel => exact ⟨k + 1, by omega, by go_num, by rw [HN.out]; rfl, by rw [HN.out]; rfl, by have := HMM.out; omega, BW'.out.trans (BN.out.mono BW'.out.size)⟩
      · cases q with
        | none =>
          go_wp2_with fail
          refine wp_region_bq wr.heap.size (by kernel_rfl) (by kernel_rfl) ?_
          repeat (go_big_quiet_step (fail))
          refine wpQuiet_nil ?_
          rintro _ ⟨n, rfl⟩
          have BN := Lib.hid n.2
          clear c0 c7
          go_wp2_with fail
          go_roundg (gk - 1)
          case measure => have := HMM.out; omega
          case rel => exact ⟨k + 1, by omega, by go_num, by rw [HN.out]; rfl, by rw [HN.out]; rfl, by have := HMM.out; omega, BW'.out.trans (BN.out.mono BW'.out.size)⟩
        | some y =>
          have hy : y < 3 := by have := oldF_lt s k y HQ.out; omega
          have y1 : (0 : Int) ≤ (y : Int) := by omega
          have y2 : (y : Int) < 3 := by omega
          have cy : ∀ n : BW wr.heap.size wr, n.1.cell? ⟨w.heap.size, 1 + y * 8 + 7, none⟩ = some (.int .i64 (s.tid y).ag) := fun n => st_cell (KW.out.below n.2 KW.out.lt) y hy (j := 7) rfl
          obtain ⟨v, hv⟩ : ∃ v, decide ((s.tid y).ag < (s.tid k).ag) = v := ⟨_, rfl⟩
          have HN2 := Lib.hid (show oldF s (k + 1) = if v = true then some k else some y by
            rw [HN.out, if_pos rfl]
            show (if (s.tid y).ag < (s.tid k).ag then some k else some y) = _
            rw [← hv]
            by_cases hz : (s.tid y).ag < (s.tid k).ag
            · rw [if_pos hz, if_pos (decide_eq_true hz)]
            · rw [if_neg hz, if_neg (by rw [decide_eq_false hz]; decide)])
          cases v
          all_goals
            go_wp2_with fail
            refine wp_region_bq wr.heap.size (by kernel_rfl) (by kernel_rfl) ?_
            repeat (go_big_quiet_step (fail))
            refine wpQuiet_nil ?_
            rintro _ ⟨n, rfl⟩
            have BN := Lib.hid n.2
            clear c0 c7 cy
            go_wp2_with fail
            go_roundg (gk - 1)
            case measure => have := HMM.out; omega
            case rel => exact ⟨k + 1, by omega, by go_num, by rw [HN2.out]; rfl, by rw [HN2.out]; rfl, by have := HMM.out; omega, BW'.out.trans (BN.out.mono BW'.out.size)⟩
    · obtain rfl : k = 3 := by omega
      have d3 : decide (((3 : Nat) : Int) < 3) = false := by decide
      go_wp2_with fail
      refine bodyPost_ret (v := .tuple #[.int .i64 ((oldF s 3).getD 0 : Nat), .bool (oldF s 3).isSome]) (by simp [results, Try.results11, go_sem]) rfl ?_
      exact ⟨rfl, HB.out.trans (BW'.out.mono HB.out.size)⟩
end
end Go.Proofs.Ytagclnmchkgpdaa
