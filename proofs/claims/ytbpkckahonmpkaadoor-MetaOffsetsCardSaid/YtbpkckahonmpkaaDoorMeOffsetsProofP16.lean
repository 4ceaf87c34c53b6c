/-
  Arrays of numbers and of Bools in a block; which rows of entries are too great.
  Layer 20: the state behind an entry, by the document (Next).
  Layer 20: what the document says of four entries (wakes); which states and entries are too great.
  Layer 20: whether two states are the same, by the document.
  Whole states as they are handed in.
  The statement MetaNext: its walk.
  Layer 20, plain: what waits in a transactional id, what its commit tells: the law of MetaOffsets.
-/
import Derived.Test.YtbpkckahonmpkaaDoorMeOffsetsProofP15
import Derived.Deep.LoopGhost
import Derived.Deep.CutBlock
import Derived.Great.BuildSlice
import Derived.Laws.StructEq
set_option linter.unusedVariables false
set_option linter.unusedSimpArgs false
namespace Go.Proofs.YtbpkckahonmpkaaDoor
open Go.RowKit
theorem StB.put {s : Sta} {t : Nat} {d : Co} (h : StB s) (hd : -128 ≤ d.st ∧ d.st ≤ 127) : StB (s.put t d) := fun k hk => by
  by_cases e : k = t
  · rw [show (s.put t d).tid k = d from if_pos e]; exact hd
  · rw [show (s.put t d).tid k = s.tid k from if_neg e]; exact h k hk
theorem StB.gr {s s' : Sta} (h : StB s) (e : ∀ k, k < 3 → s'.tid k = s.tid k) : StB s' := fun k hk => by rw [e k hk]; exact h k hk
section
attribute [-go_sem] loadCells storeVar Instr.build
end
end Go.Proofs.YtbpkckahonmpkaaDoor
namespace Go.Proofs.YtbpkckahonmpkaaDoor
open Go.RowKit
def oneS (made : Int) (c : Co) (g : Nat → Int) : Sta := ⟨made, fun k => if k = 0 then c else Co0, g⟩
theorem oneS_put (made : Int) (c d : Co) (g : Nat → Int) : (oneS made c g).put 0 d = oneS made d g := by
  unfold oneS Sta.put
  congr 1
  funext k
  show (if k = 0 then d else if k = 0 then c else Co0) = if k = 0 then d else Co0
  by_cases h : k = 0
  · rw [if_pos h, if_pos h]
  · rw [if_neg h, if_neg h, if_neg h]
theorem co0_may : mayB Co0 = true := by unfold mayB; simp [Co0, sameB]
theorem oneS_may {made : Int} {c : Co} {g : Nat → Int} (hc : mayB c = true) (hp : c.pid ≤ made) (h0 : 0 ≤ made) (h8 : made ≤ 8) (hg : ∀ j, -1 ≤ g j ∧ g j ≤ 1048576) : mayS (oneS made c g) = true := by
  refine (mayS_iff _).2 ⟨h0, h8, fun k hk => (okT_iff _ k).2 ?_, fun j _ => ?_⟩
  · by_cases h : k = 0
    · subst h
      exact ⟨hc, hp, fun j hj => absurd hj (Nat.not_lt_zero j)⟩
    · have e : (oneS made c g).tid k = Co0 := if_neg h
      rw [e]
      exact ⟨co0_may, h0, fun _ _ => .inl rfl⟩
  · show (decide (-1 ≤ g j) && decide (g j ≤ 1048576)) = true
    rw [decide_eq_true (hg j).1, decide_eq_true (hg j).2]; rfl
def we1 : Mt := ⟨1, 0, 5, Pd0, false, 0, Co0, 0⟩
def we2 : Mt := ⟨2, 0, 0, (1, 2, 9), false, 0, Co0, 0⟩
def we3 : Mt := ⟨3, 0, 0, Pd0, true, 0, Co0, 0⟩
def we4 : Mt := ⟨4, 0, 0, Pd0, false, 0, Co0, 0⟩
theorem we1_may : mayM we1 = true := by unfold mayM fitM bareM sameM sameB; simp [we1, Co0, Pd0]
theorem we2_may : mayM we2 = true := by unfold mayM fitM bareM sameM sameB; simp [we2, Co0, Pd0, pendB, partB]
theorem we3_may : mayM we3 = true := by unfold mayM fitM bareM sameM sameB; simp [we3, Co0, Pd0]
theorem we4_may : mayM we4 = true := by unfold mayM fitM bareM sameM sameB; simp [we4, Co0, Pd0]
def wc1 : Co := ⟨1, 1, 0, 5, 0, [], [], 0⟩
def wc2 : Co := ⟨2, 1, 0, 5, 0, [], [(1, 2, 9)], 0⟩
def wc3 : Co := ⟨3, 1, 0, 5, 0, [], [(1, 2, 9)], 0⟩
def wc4 : Co := ⟨5, 1, 0, 5, 0, [], [], 0⟩
theorem wc1_may : mayB wc1 = true := may_new 1 1 0 5 (.inl rfl) ⟨by decide, by decide⟩ ⟨by decide, by decide⟩ ⟨by decide, by decide⟩
theorem wc2_set : setE wc1 (1, 2, 9) = 0 ∧ setC wc1 (1, 2, 9) = wc2 := by
  have h : setE wc1 (1, 2, 9) = 0 := by
    unfold setE chkE
    rw [if_neg (by rw [wc1_may]; decide), if_neg (by decide)]
  exact ⟨h, (set_ok h).2⟩
theorem wc2_may : mayB wc2 = true := by rw [← wc2_set.2]; exact (set_ok wc2_set.1).1
theorem wc3_prep : prepE wc2 true 0 = 0 ∧ prepC wc2 true 0 = wc3 := by
  have h : prepE wc2 true 0 = 0 := by
    unfold prepE
    rw [if_neg (by simp), if_neg (by unfold chkE; rw [if_neg (by rw [wc2_may]; decide), if_neg (by decide)]; simp), if_neg (by simp)]
  refine ⟨h, ?_⟩
  unfold prepC
  rw [if_pos h]
  rfl
theorem wc3_may : mayB wc3 = true := by
  rw [← wc3_prep.2]
  exact (mv_fact (x := ⟨3, 0, 0, Pd0, true, []⟩) wc2_may (by unfold mvE; simpa using wc3_prep.1)).may
theorem wc4_comp : chkE wc3 3 true = 0 ∧ compC wc3 = wc4 := by
  have h : chkE wc3 3 true = 0 := by
    unfold chkE
    rw [if_neg (by rw [wc3_may]; decide), if_neg (by decide)]
  refine ⟨h, ?_⟩
  unfold compC
  rw [if_neg (by rw [h]; simp), if_neg (by decide), if_neg (by decide)]
  rfl
theorem wc4_may : mayB wc4 = true := may_new 5 1 0 5 (.inr (.inl rfl)) ⟨by decide, by decide⟩ ⟨by decide, by decide⟩ ⟨by decide, by decide⟩
def gr0 : Nat → Int := fun _ => -1
theorem gr0_ok : ∀ j, -1 ≤ gr0 j ∧ gr0 j ≤ 1048576 := fun _ => ⟨by unfold gr0; decide, by unfold gr0; decide⟩
theorem sta0_one : sta0 = oneS 0 Co0 gr0 := by
  unfold sta0 oneS gr0
  congr 1
  funext k
  split <;> rfl
theorem ws1 : nextE sta0 we1 = 0 ∧ nextS sta0 we1 = oneS 1 wc1 gr0 := by
  rw [sta0_one]
  have hs : mayS (oneS 0 Co0 gr0) = true := oneS_may co0_may (by decide) (by decide) (by decide) gr0_ok
  have h := next_f hs we1_may rfl (show ((oneS 0 Co0 gr0).tid 0).st = 0 from rfl)
  rw [if_neg (by decide), if_neg (by decide)] at h
  refine ⟨h.1, ?_⟩
  rw [h.2, (init_fresh (c := (oneS 0 Co0 gr0).tid we1.tid.toNat) co0_may rfl (n := (oneS 0 Co0 gr0).made + 1) (tm := we1.tm) (by decide) (by decide) (by decide) (by decide)).2]
  have := oneS_put 0 Co0 wc1 gr0
  show ({ (oneS 0 Co0 gr0).put 0 wc1 with made := 1 } : Sta) = _
  rw [this]; rfl
theorem ws_move {c d : Co} {m : Mt} (hc : mayB c = true) (hd : mayB d = true) (hm : mayM m = true) (ht : m.tid = 0) (hp : c.pid = 1) (hp2 : d.pid = 1) (g g2 : Nat → Int) (hg : ∀ j, -1 ≤ g j ∧ g j ≤ 1048576) (hg2 : ∀ j, -1 ≤ g2 j ∧ g2 j ≤ 1048576)
    (hk : ¬ (m.kd = 0 ∨ m.kd = 5 ∨ m.kd = 7)) (hf : ¬ (m.kd = 1 ∧ c.st = 0)) (he : moveE c m 1 = 0) (hdd : moveC c m 1 = d) (hpn : (oneS 1 c g).pends (if m.kd = 4 ∧ c.st = 3 then c.qs else []) = oneS 1 c g2) :
    nextE (oneS 1 c g) m = 0 ∧ nextS (oneS 1 c g) m = oneS 1 d g2 := by
  have hs : mayS (oneS 1 c g) = true := oneS_may hc (by omega) (by decide) (by decide) hg
  have htn : m.tid.toNat = 0 := by rw [ht]; rfl
  have h := next_m hs hm hk (by rw [htn]; exact hf)
  rw [htn] at h
  have e0 : (oneS 1 c g).tid 0 = c := rfl
  have em : (oneS 1 c g).made = 1 := rfl
  rw [e0, em, he, hdd, hpn, oneS_put] at h
  have hn : nextE (oneS 1 c g) m = 0 := by
    rw [h.1, h.2, if_neg (by simp), if_pos (oneS_may hd (by omega) (by decide) (by decide) hg2)]
  exact ⟨hn, by unfold nextS; rw [if_pos hn, h.2]⟩
theorem ws2 : nextE (oneS 1 wc1 gr0) we2 = 0 ∧ nextS (oneS 1 wc1 gr0) we2 = oneS 1 wc2 gr0 :=
  ws_move wc1_may wc2_may we2_may rfl rfl rfl gr0 gr0 gr0_ok gr0_ok (by decide) (by decide) wc2_set.1 wc2_set.2 rfl
theorem ws3 : nextE (oneS 1 wc2 gr0) we3 = 0 ∧ nextS (oneS 1 wc2 gr0) we3 = oneS 1 wc3 gr0 :=
  ws_move wc2_may wc3_may we3_may rfl rfl rfl gr0 gr0 gr0_ok gr0_ok (by decide) (by decide) wc3_prep.1 wc3_prep.2 rfl
def gr4 : Nat → Int := fun j => if j = 5 then 9 else gr0 j
theorem gr4_ok : ∀ j, -1 ≤ gr4 j ∧ gr4 j ≤ 1048576 := fun j => by
  unfold gr4
  split
  · exact ⟨by decide, by decide⟩
  · exact gr0_ok j
theorem ws4 : nextE (oneS 1 wc3 gr0) we4 = 0 ∧ nextS (oneS 1 wc3 gr0) we4 = oneS 1 wc4 gr4 :=
  ws_move wc3_may wc4_may we4_may rfl rfl rfl gr0 gr4 gr0_ok gr4_ok (by decide) (by decide) wc4_comp.1 wc4_comp.2 rfl
def wL : List MtM := [⟨we1, none, none, 0, 0⟩, ⟨we2, none, none, 0, 0⟩, ⟨we3, none, none, 0, 0⟩, ⟨we4, none, none, 0, 0⟩]
theorem wL_fold : foldM sta0 (wL.map (·.x)) 0 = (oneS 1 wc4 gr4, 4, 0) := by
  show foldM sta0 [we1, we2, we3, we4] 0 = _
  unfold foldM
  rw [if_pos ws1.1, ws1.2]
  unfold foldM
  rw [if_pos ws2.1, ws2.2]
  unfold foldM
  rw [if_pos ws3.1, ws3.2]
  unfold foldM
  rw [if_pos ws4.1, ws4.2]
  rfl
theorem wL_R (w : World) (B : Nat) : MtsR w B wL := by
  intro y hy
  unfold wL at hy
  simp only [List.mem_cons, List.not_mem_nil, or_false] at hy
  rcases hy with rfl | rfl | rfl | rfl <;> exact co0_R w B
section
attribute [-go_sem] loadCells storeVar
set_option maxRecDepth 100000 in
set_option maxHeartbeats 4000000 in
theorem of_1 (s : Sta) (a : Sad) (w : World) (hp : (s.tid 0).pid = 1) :
    Calls Tryd.prog 24 #[.agg (stX s a), .int .i64 1] w fun e w' => e = .returned (.tuple #[.int .i64 0, .bool true]) ∧ Below w.heap.size w w' := by
  obtain ⟨W0, hW0⟩ : ∃ W0, W0 = w.alloc (.cells (stX s a) 31) := ⟨_, rfl⟩
  have B0 : Below w.heap.size w W0 := by rw [hW0]; exact bal (Below.refl _ _) _
  have K1 : Blk W0 w.heap.size 31 (stX s a) := by rw [hW0]; exact Blk.new w 31 (stX s a)
  have HW := Lib.hid hW0
  have HB := Lib.hid B0
  have x1 := st_tids K1
  have ix := st_index0 s a W0
  obtain ⟨W2, st2, k2, b2, s2⟩ := bk_fresh (P := Tryd.prog) W0 26 #[.int .i8 0, .int .i64 0, .int .i64 0, .int .i64 0, .int .i64 0, .slice none 0 0, .slice none 0 0, .int .i64 0] #[.int .i8 (s.tid 0).st, .int .i64 (s.tid 0).pid, .int .i64 (s.tid 0).ep, .int .i64 (s.tid 0).tm, .int .i64 (s.tid 0).th, .slice (a.A 0) (s.tid 0).ps.length (a.c 0), .slice (a.D 0) (s.tid 0).qs.length (a.e 0), .int .i64 (s.tid 0).ag] 8 infoCoS rfl rfl (by simp [Value.oneCell'])
  have y1 : W2.cell? ⟨W0.heap.size, 1, none⟩ = some (.int .i64 1) := by rw [← hp]; exact k2.cell 1
  have B2 := Lib.hid (B0.trans (b2.mono B0.size))
  clear hW0 B0 K1 k2 b2 s2 hp
  go_enter Tryd.func24, Tryd.ntmps24
  go_upto_region 1 with (fail)
  rw [← HW.out]
  go_wp2_with fail
  go_loopg [10] 1 (fun mm y wq => y = .int .i64 0 ∧ mm = 1 ∧ wq = W0)
  case atStart => exact ⟨rfl, rfl, rfl⟩
  obtain ⟨rfl, hmm, rfl⟩ := hrel
  clear hmm
  go_wp2_with fail
  go_ret2
  exact ⟨rfl, B2.out⟩
set_option maxRecDepth 100000 in
set_option maxHeartbeats 4000000 in
theorem plain_1 (s : Sta) (a : Sad) (w : World) (hp : (s.tid 0).pid = 1) (hm : s.made = 1) :
    Calls Tryd.prog 25 #[.agg (stX s a), .int .i64 1] w fun e w' => e = .returned (.bool false) ∧ Below w.heap.size w w' := by
  obtain ⟨W0, hW0⟩ : ∃ W0, W0 = w.alloc (.cells (stX s a) 31) := ⟨_, rfl⟩
  have B0 : Below w.heap.size w W0 := by rw [hW0]; exact bal (Below.refl _ _) _
  have K1 : Blk W0 w.heap.size 31 (stX s a) := by rw [hW0]; exact Blk.new w 31 (stX s a)
  have HW := Lib.hid hW0
  have HB := Lib.hid B0
  have HK := Lib.hid K1
  have HM := Lib.hid hm
  have l1 := st_load K1
  have OF := Lib.hid (of_1 s a W0 hp)
  clear hW0 B0 K1 hp hm
  go_enter Tryd.func25, Tryd.ntmps25
  go_upto_region 1 with (fail)
  rw [← HW.out]
  go_wp2_with fail
  refine OF.out.mono ?_
  rintro e w1 ⟨rfl, b1⟩
  have xm : w1.cell? ⟨w.heap.size, 0, none⟩ = some (.int .i64 1) := by rw [← HM.out]; exact st_made (HK.out.below b1 HK.out.lt)
  have B1 := Lib.hid (HB.out.trans (b1.mono HB.out.size))
  clear b1 l1
  go_wp2_with fail
  go_ret
  exact ⟨rfl, B1.out⟩
section
attribute [-go_sem] Instr.build Instr.buildSlice
theorem wbs (W : World) : (Instr.buildSlice 44 4 #[(0, .agg (mtX we1 none none 0 0)), (1, .agg (mtX we2 none none 0 0)), (2, .agg (mtX we3 none none 0 0)), (3, .agg (mtX we4 none none 0 0))]).run Tryd.prog W = .ok (.slice (some ⟨W.heap.size, 0, none⟩) 4 4) (W.alloc (.cells (cellsE wL).toArray 35)) := by kernel_rfl
set_option maxRecDepth 100000 in
set_option maxHeartbeats 8000000 in
theorem wakes20 (w : World) (hg : HasET w) : Calls Tryd.prog 9 #[] w fun e w' => e = .returned (.bool true) ∧ Below w.heap.size w w' := by
  have bd1 : ∀ W, (Instr.build 35 #[(0, .int .i8 1), (2, .int .i64 5)]).run Tryd.prog W = .ok (.agg (mtX we1 none none 0 0)) W := fun W => run_build W 35 _ _ (by kernel_rfl)
  have bdp : ∀ W, (Instr.build 33 #[(0, .int .i64 1), (1, .int .i64 2), (2, .int .i64 9)]).run Tryd.prog W = .ok (.agg #[.int .i64 1, .int .i64 2, .int .i64 9]) W := fun W => run_build W 33 _ _ (by kernel_rfl)
  have bd2 : ∀ W, (Instr.build 35 #[(0, .int .i8 2), (3, .agg #[.int .i64 1, .int .i64 2, .int .i64 9])]).run Tryd.prog W = .ok (.agg (mtX we2 none none 0 0)) W := fun W => run_build W 35 _ _ (by kernel_rfl)
  have bd3 : ∀ W, (Instr.build 35 #[(0, .int .i8 3), (4, .bool true)]).run Tryd.prog W = .ok (.agg (mtX we3 none none 0 0)) W := fun W => run_build W 35 _ _ (by kernel_rfl)
  have bd4 : ∀ W, (Instr.build 35 #[(0, .int .i8 4)]).run Tryd.prog W = .ok (.agg (mtX we4 none none 0 0)) W := fun W => run_build W 35 _ _ (by kernel_rfl)
  have bs := fun W => wbs W
  obtain ⟨W1, hW1⟩ : ∃ W1, W1 = w.alloc (.cells (cellsE wL).toArray 35) := ⟨_, rfl⟩
  have B1 : Below w.heap.size w W1 := by rw [hW1]; exact bal (Below.refl _ _) _
  have k1 : Blk W1 w.heap.size 35 (cellsE wL).toArray := by rw [hW1]; exact Blk.new _ _ _
  have hr : Reads W1 W1.heap.size 17 (some ⟨w.heap.size, 0, none⟩) wL.length (cellsE wL) := ⟨by rw [length_cellsE], fun _ => ⟨_, rfl, k1.lt, fun j u hu => by
    rw [add_none, Nat.zero_add, k1.cell]
    simpa using hu⟩⟩
  have hf := mFold_any wL (some ⟨w.heap.size, 0, none⟩) 4 W1.heap.size W1 hr (Nat.le_refl _) (wL_R _ _) (by decide) (hg.up B1)
  unfold FoP at hf
  rw [wL_fold] at hf
  have FO := Lib.hid (show Calls Tryd.prog 20 #[.slice (some ⟨w.heap.size, 0, none⟩) 4 4] W1 fun e w' => ∃ a, e = .returned (.tuple #[.agg (stX (oneS 1 wc4 gr4) a), .int .i64 4, .int .i64 0]) ∧ StR w' w'.heap.size (oneS 1 wc4 gr4) a ∧ Below W1.heap.size W1 w' from hf)
  have HW1 := Lib.hid hW1
  have HB1 := Lib.hid B1
  clear hW1 B1 k1 hr hf hg
  go_enter Tryd.func9, Tryd.ntmps9
  go_wp2_with fail
  rw [← HW1.out]
  refine FO.out.mono ?_
  rintro e w2 ⟨a, rfl, r2, b2⟩
  obtain ⟨W3, st3, k3, b3, s3⟩ := bk_fresh (P := Tryd.prog) w2 31 #[.int .i64 0, .int .i8 0, .int .i64 0, .int .i64 0, .int .i64 0, .int .i64 0, .slice none 0 0, .slice none 0 0, .int .i64 0, .int .i8 0, .int .i64 0, .int .i64 0, .int .i64 0, .int .i64 0, .slice none 0 0, .slice none 0 0, .int .i64 0, .int .i8 0, .int .i64 0, .int .i64 0, .int .i64 0, .int .i64 0, .slice none 0 0, .slice none 0 0, .int .i64 0, .int .i64 0, .int .i64 0, .int .i64 0, .int .i64 0, .int .i64 0, .int .i64 0] (stX (oneS 1 wc4 gr4) a) 31 infoSta rfl (stX_size ..) (stX_one ..)
  have K3 := Lib.hid k3
  have B3 := Lib.hid (HB1.out.trans ((b2.trans (b3.mono b2.size)).mono HB1.out.size))
  have l3 := st_load k3
  have OF := Lib.hid (of_1 (oneS 1 wc4 gr4) a W3 rfl)
  clear k3 b3 s3 r2 b2 bd1 bdp bd2 bd3 bd4 bs
  go_wp2_with fail
  refine OF.out.mono ?_
  rintro e w4 ⟨rfl, b4⟩
  have k4 := K3.out.below b4 K3.out.lt
  have l4 := st_load k4
  have c0 : w4.cell? ⟨w2.heap.size, 0, none⟩ = some (.int .i64 1) := st_made k4
  have c30 : w4.cell? ⟨w2.heap.size, 25 + 1 * 3 + 2, none⟩ = some (.int .i64 9) := st_gr k4 5 (by decide)
  have c25 : w4.cell? ⟨w2.heap.size, 25, none⟩ = some (.int .i64 (-1)) := st_gr k4 0 (by decide)
  simp only [Nat.reduceMul, Nat.reduceAdd] at c30
  have PL := Lib.hid (plain_1 (oneS 1 wc4 gr4) a w4 rfl rfl)
  have B4 := Lib.hid (B3.out.trans (b4.mono B3.out.size))
  clear k4 b4 l3 st3
  go_wp2_with fail
  refine PL.out.mono ?_
  rintro e w5 ⟨rfl, b5⟩
  have B5 := Lib.hid (B4.out.trans (b5.mono B4.out.size))
  clear b5 l4 c0 c30 c25
  go_wp2_with fail
  go_ret
  exact ⟨rfl, B5.out⟩
end
end
end Go.Proofs.YtbpkckahonmpkaaDoor
namespace Go.Proofs.YtbpkckahonmpkaaDoor
open Go.RowKit
def grsB (s t : Sta) : Bool := ((s.gr 0 == t.gr 0) && ((s.gr 1 == t.gr 1) && (s.gr 2 == t.gr 2))) && ((s.gr 3 == t.gr 3) && ((s.gr 4 == t.gr 4) && (s.gr 5 == t.gr 5)))
theorem eqR3 (d : Nat) (a0 a1 a2 b0 b1 b2 : Int) (w : World) : (Op.equalIn (d + 1 + 1) 28 (.agg #[.int .i64 a0, .int .i64 a1, .int .i64 a2]) (.agg #[.int .i64 b0, .int .i64 b1, .int .i64 b2])).run Tryd.prog w = .ok ((a0 == b0) && ((a1 == b1) && (a2 == b2))) w := by
  have u3 := Tryd.underlying3
  have a3 := Tryd.isAgg3
  have z3 := Tryd.sizeOf3
  rw [Op.equalIn]
  simp only [Sem.run_bind, run_underlying Tryd.underlying28, Result.andThen_ok]
  simp only [Std.Legacy.Range.forIn_eq_forIn_range', Std.Legacy.Range.size, Nat.sub_zero, Nat.add_sub_cancel, Nat.div_one, List.range'_succ, List.range'_zero, List.forIn_cons, List.forIn_nil]
  go_simp
  by_cases h1 : a0 = b0 <;> by_cases h2 : a1 = b1 <;> by_cases h3 : a2 = b2 <;> simp [h1, h2, h3]
theorem eqGr (s t : Sta) (w : World) : (Op.equalIn 10000 29 (.agg (grX s)) (.agg (grX t))).run Tryd.prog w = .ok (grsB s t) w := by
  have u3 := Tryd.underlying28
  have a3 := Tryd.isAgg28
  have z3 := Tryd.sizeOf28
  have e0 := fun W => eqR3 9997 (s.gr 0) (s.gr 1) (s.gr 2) (t.gr 0) (t.gr 1) (t.gr 2) W
  have e1 := fun W => eqR3 9997 (s.gr 3) (s.gr 4) (s.gr 5) (t.gr 3) (t.gr 4) (t.gr 5) W
  unfold grsB
  generalize ((s.gr 0 == t.gr 0) && ((s.gr 1 == t.gr 1) && (s.gr 2 == t.gr 2))) = u at e0 ⊢
  generalize ((s.gr 3 == t.gr 3) && ((s.gr 4 == t.gr 4) && (s.gr 5 == t.gr 5))) = v at e1 ⊢
  rw [show (10000 : Nat) = 9999 + 1 from rfl, Op.equalIn]
  simp only [Sem.run_bind, run_underlying Tryd.underlying29, Result.andThen_ok]
  simp only [Std.Legacy.Range.forIn_eq_forIn_range', Std.Legacy.Range.size, Nat.sub_zero, Nat.add_sub_cancel, Nat.div_one, List.range'_succ, List.range'_zero, List.forIn_cons, List.forIn_nil]
  unfold grX grL
  go_simp
  cases u <;> cases v <;> simp
section
attribute [-go_sem] loadCells storeVar
end
end Go.Proofs.YtbpkckahonmpkaaDoor
namespace Go.Proofs.YtbpkckahonmpkaaDoor
open Go.RowKit
/-- A state as it is handed in: its lists, however long. -/
def StRaw (w : World) (s : Sta) (a : Sad) : Prop := ∀ k, k < 3 → Reads w w.heap.size 1 (a.A k) (s.tid k).ps.length (cellsI .i64 (s.tid k).ps) ∧ Reads w w.heap.size 3 (a.D k) (s.tid k).qs.length (cellsP (s.tid k).qs) ∧ -128 ≤ (s.tid k).st ∧ (s.tid k).st ≤ 127
end Go.Proofs.YtbpkckahonmpkaaDoor
namespace Go.Proofs.YtbpkckahonmpkaaDoor
open Go.RowKit
def MtRaw (w : World) (m : Mt) (A D : Option Addr) : Prop := Reads w w.heap.size 1 A m.c.ps.length (cellsI .i64 m.c.ps) ∧ Reads w w.heap.size 3 D m.c.qs.length (cellsP m.c.qs) ∧ -128 ≤ m.c.st ∧ m.c.st ≤ 127
theorem MtRaw.co {w : World} {m : Mt} {A D : Option Addr} (h : MtRaw w m A D) (hb : bigT m.c = false) : CoR w w.heap.size m.c A D := by
  unfold bigT at hb
  simp only [Bool.or_eq_false_iff, decide_eq_false_iff_not, Nat.not_lt] at hb
  exact ⟨h.1, h.2.1, by omega, by omega⟩
theorem StRaw.st {w : World} {s : Sta} {a : Sad} (h : StRaw w s a) (hb : bigS s = false) : StR w w.heap.size s a := fun k hk => by
  have := bigS_no hb k hk
  exact ⟨(h k hk).1, (h k hk).2.1, by omega, by omega⟩
section
attribute [-go_sem] loadCells storeVar
set_option maxRecDepth 100000 in
set_option maxHeartbeats 4000000 in
theorem rGreat19_any (m : Mt) (A D : Option Addr) (c e : Nat) (w : World) :
    Calls Tryd.prog 8 #[.agg (mtX m A D c e)] w fun e w' => e = .returned (.bool (bigT m.c)) ∧ Below w.heap.size w w' := by
  obtain ⟨W0, hW0⟩ : ∃ W0, W0 = w.alloc (.cells (mtX m A D c e) 35) := ⟨_, rfl⟩
  have B0 : Below w.heap.size w W0 := by rw [hW0]; exact bal (Below.refl _ _) _
  have K1 : Blk W0 w.heap.size 35 (mtX m A D c e) := by rw [hW0]; exact Blk.new w 35 _
  have HW := Lib.hid hW0
  have HB := Lib.hid B0
  have y5 := mt_cell K1 (j := 13) rfl
  have y6 := mt_cell K1 (j := 14) rfl
  obtain ⟨u, hu⟩ : ∃ u, decide ((40 : Int) < (m.c.ps.length : Int)) = u := ⟨_, rfl⟩
  obtain ⟨v, hv⟩ : ∃ v, decide ((40 : Int) < (m.c.qs.length : Int)) = v := ⟨_, rfl⟩
  have HN := Lib.hid (show bigT m.c = (u || v) by
    unfold bigT
    rw [← hu, ← hv]
    congr 1
    · exact decide_eq_decide.2 (by omega)
    · exact decide_eq_decide.2 (by omega))
  clear hW0 B0 K1
  cases u
  · cases v
    · go_enter Tryd.func8, Tryd.ntmps8
      go_upto_region 1 with (fail)
      rw [← HW.out]
      go_wp2_with fail
      go_ret
      rw [HN.out]
      exact ⟨rfl, HB.out⟩
    · go_enter Tryd.func8, Tryd.ntmps8
      go_upto_region 1 with (fail)
      rw [← HW.out]
      go_wp2_with fail
      go_ret
      rw [HN.out]
      exact ⟨rfl, HB.out⟩
  · go_enter Tryd.func8, Tryd.ntmps8
    go_upto_region 1 with (fail)
    rw [← HW.out]
    go_wp2_with fail
    go_ret
    rw [HN.out]
    exact ⟨by simp, HB.out⟩
end
end Go.Proofs.YtbpkckahonmpkaaDoor
namespace Go.Proofs.YtbpkckahonmpkaaDoor
open Go.RowKit
def idxP (p : Pd) : Nat := p.1.toNat * 3 + p.2.1.toNat
def waitL : List Pd → Nat → Int
  | [], _ => 0
  | y :: l, g => if idxP y = g then y.2.2 + 1 else waitL l g
theorem pendB_iff (p : Pd) : pendB p = true ↔ 0 ≤ p.1 ∧ p.1 < 2 ∧ 0 ≤ p.2.1 ∧ p.2.1 < 3 ∧ 0 ≤ p.2.2 ∧ p.2.2 ≤ 1048576 := by
  unfold pendB partB
  simp only [Bool.and_eq_true, decide_eq_true_eq, and_assoc]
theorem idx_lt {p : Pd} (h : pendB p = true) : idxP p < 6 := by
  have := (pendB_iff p).1 h
  unfold idxP
  omega
theorem idx_eq {p q : Pd} (hp : pendB p = true) (hq : pendB q = true) : idxP p = idxP q ↔ p.1 = q.1 ∧ p.2.1 = q.2.1 := by
  have h1 := (pendB_iff p).1 hp
  have h2 := (pendB_iff q).1 hq
  unfold idxP
  constructor
  · intro h; omega
  · rintro ⟨e1, e2⟩; rw [e1, e2]
theorem waitL_keep {p : Pd} (hp : pendB p = true) (g : Nat) : ∀ l : List Pd, (∀ y ∈ l, pendB y = true) → waitL (keepF (fun y => plI y p) l p) g = if g = idxP p then p.2.2 + 1 else waitL l g
  | [], _ => by
    rw [keepF_nil]
    show (if idxP p = g then p.2.2 + 1 else 0) = _
    by_cases h : g = idxP p
    · rw [if_pos h.symm, if_pos h]
    · rw [if_neg (fun x => h x.symm), if_neg h]; rfl
  | a :: t, hl => by
    have ha := hl a List.mem_cons_self
    have ih := waitL_keep hp g t (fun y hy => hl y (List.mem_cons_of_mem _ hy))
    rw [keepF_cons]
    by_cases h1 : plI a p < 0
    · rw [if_pos h1]
      show (if idxP a = g then a.2.2 + 1 else waitL (keepF (fun y => plI y p) t p) g) = if g = idxP p then p.2.2 + 1 else if idxP a = g then a.2.2 + 1 else waitL t g
      have hne : ¬ idxP a = idxP p := fun e => by
        have := (plI_zero a p).2 ((idx_eq ha hp).1 e)
        omega
      by_cases h : g = idxP p
      · rw [if_neg (fun x => hne (x.trans h)), ih, if_pos h, if_pos h]
      · rw [if_neg h, ih, if_neg h]
    · rw [if_neg h1]
      by_cases h0 : plI a p = 0
      · rw [if_pos h0]
        have he : idxP a = idxP p := (idx_eq ha hp).2 ((plI_zero a p).1 h0)
        show (if idxP p = g then p.2.2 + 1 else waitL t g) = if g = idxP p then p.2.2 + 1 else if idxP a = g then a.2.2 + 1 else waitL t g
        by_cases h : g = idxP p
        · rw [if_pos h.symm, if_pos h]
        · rw [if_neg (fun x => h x.symm), if_neg h, if_neg (fun x => h (x.symm.trans he))]
      · rw [if_neg h0]
        show (if idxP p = g then p.2.2 + 1 else waitL (a :: t) g) = _
        by_cases h : g = idxP p
        · rw [if_pos h.symm, if_pos h]
        · rw [if_neg (fun x => h x.symm), if_neg h]
theorem waitL_none {g : Nat} : ∀ l : List Pd, (∀ y ∈ l, ¬ idxP y = g) → waitL l g = 0
  | [], _ => rfl
  | a :: t, h => by
    show (if idxP a = g then a.2.2 + 1 else waitL t g) = 0
    rw [if_neg (h a List.mem_cons_self)]
    exact waitL_none t (fun y hy => h y (List.mem_cons_of_mem _ hy))
theorem ahead_idx {p q : Pd} (hp : pendB p = true) (hq : pendB q = true) (h : aheadP p q) : ¬ idxP q = idxP p := fun e => by
  have := (idx_eq hq hp).1 e
  have := (ahead_iff p q).1 h
  omega
theorem pends_gr (g : Nat) : ∀ (l : List Pd) (s : Sta), (∀ y ∈ l, pendB y = true) → l.Pairwise aheadP → (s.pends l).gr g = if 0 < waitL l g then waitL l g - 1 else s.gr g
  | [], s, _, _ => by
    show s.gr g = if 0 < (0 : Int) then (0 : Int) - 1 else s.gr g
    rw [if_neg (by decide)]
  | y :: l, s, hl, hp => by
    have hy := hl y List.mem_cons_self
    have hp' := List.pairwise_cons.1 hp
    have ih := pends_gr g l (s.pend y) (fun z hz => hl z (List.mem_cons_of_mem _ hz)) hp'.2
    show ((s.pend y).pends l).gr g = _
    rw [ih]
    have hgr : (s.pend y).gr g = if g = idxP y then y.2.2 else s.gr g := rfl
    rw [hgr]
    show _ = if 0 < (if idxP y = g then y.2.2 + 1 else waitL l g) then (if idxP y = g then y.2.2 + 1 else waitL l g) - 1 else s.gr g
    by_cases h : idxP y = g
    · rw [waitL_none l (fun z hz => by rw [← h]; exact ahead_idx hy (hl z (List.mem_cons_of_mem _ hz)) (hp'.1 z hz)), if_neg (by decide), if_pos h.symm, if_pos h]
      have := (pendB_iff y).1 hy
      rw [if_pos (by omega)]
      omega
    · rw [if_neg (show ¬ g = idxP y from fun x => h x.symm), if_neg (show ¬ idxP y = g from h)]
/-- What the law keeps beside the state. -/
structure OfI (s : Sta) (want wait : Nat → Int) (yes : Nat → Bool) : Prop where
  want : ∀ g, g < 6 → want g = s.gr g
  wait : ∀ t, t < 3 → ∀ g, g < 6 → wait (t * 6 + g) = waitL (s.tid t).qs g
  yes : ∀ t, t < 3 → ((s.tid t).st = 3 → yes t = true) ∧ ((s.tid t).st = 4 → yes t = false)
def upd {α : Type} (f : Nat → α) (i : Nat) (v : α) : Nat → α := fun j => if j = i then v else f j
theorem OfI.start : OfI sta0 (fun _ => -1) (fun _ => 0) (fun _ => false) := ⟨fun _ _ => rfl, fun _ _ _ _ => rfl, fun _ _ => ⟨fun h => absurd h (show ¬ (0 : Int) = 3 by decide), fun _ => rfl⟩⟩
theorem OfI.made {s : Sta} {want wait : Nat → Int} {yes : Nat → Bool} (h : OfI s want wait yes) (n : Int) : OfI { s with made := n } want wait yes := ⟨h.want, h.wait, h.yes⟩
theorem OfI.pend {s : Sta} {want wait : Nat → Int} {yes : Nat → Bool} (h : OfI s want wait yes) (p : Pd) : OfI (s.pend p) (upd want (idxP p) p.2.2) wait yes := by
  refine ⟨fun g hg => ?_, h.wait, h.yes⟩
  show (if g = idxP p then p.2.2 else want g) = if g = idxP p then p.2.2 else s.gr g
  by_cases e : g = idxP p
  · rw [if_pos e, if_pos e]
  · rw [if_neg e, if_neg e]; exact h.want g hg
theorem OfI.put {s : Sta} {want wait wait' : Nat → Int} {yes yes' : Nat → Bool} (h : OfI s want wait yes) {t : Nat} {d : Co} (hw : ∀ u, u < 3 → ∀ g, g < 6 → wait' (u * 6 + g) = if u = t then waitL d.qs g else wait (u * 6 + g)) (hy : ∀ u, u < 3 → ¬ u = t → yes' u = yes u) (hd : (d.st = 3 → yes' t = true) ∧ (d.st = 4 → yes' t = false)) :
    OfI (s.put t d) want wait' yes' := by
  refine ⟨h.want, fun u hu g hg => ?_, fun u hu => ?_⟩
  · rw [hw u hu g hg]
    by_cases e : u = t
    · rw [if_pos e, show (s.put t d).tid u = d from if_pos e]
    · rw [if_neg e, show (s.put t d).tid u = s.tid u from if_neg e]; exact h.wait u hu g hg
  · by_cases e : u = t
    · rw [show (s.put t d).tid u = d from if_pos e, e]; exact hd
    · rw [show (s.put t d).tid u = s.tid u from if_neg e, hy u hu e]; exact h.yes u hu
theorem begins0_idle {c : Co} (hm : mayB c = true) (h : beginsB c.st 0 = true) : c.qs = [] := by
  rcases begins_0 h with h0 | h0
  · rw [may_none hm h0]; rfl
  · unfold mayB at hm
    rw [if_neg (by omega), if_neg (by omega), if_neg (by omega), if_neg (by omega), if_pos (by omega)] at hm
    unfold idleB at hm
    simp only [Bool.and_eq_true, decide_eq_true_eq] at hm
    exact List.eq_nil_of_length_eq_zero hm.2.2.2.1
theorem init_qs {c : Co} {n tm : Int} (hm : mayB c = true) (h : initE c n tm = 0) : c.qs = [] ∧ (initC c n tm).qs = [] ∧ (initC c n tm).st = 1 := by
  have hc : chkE c 0 true = 0 := by
    unfold initE at h
    split at h
    · cases h
    · split at h
      · rename_i hx; exact absurd h hx
      · rename_i hx; exact Classical.byContradiction hx
  refine ⟨begins0_idle hm (chk_begins hc), ?_⟩
  unfold initC
  rw [if_pos h]
  split <;> exact ⟨rfl, rfl⟩
/-- The law, kind by kind: the state behind an entry that is done, what the law keeps. -/
theorem next_may {s : Sta} {m : Mt} (h : nextE s m = 0) : mayS s = true ∧ mayM m = true := by
  constructor
  · cases hx : mayS s
    · unfold nextE at h; rw [if_pos (.inl hx)] at h; cases h
    · rfl
  · cases hx : mayM m
    · unfold nextE at h; rw [if_pos (.inr hx)] at h; cases h
    · rfl
theorem next_ok_m {s : Sta} {m : Mt} (hk : ¬ (m.kd = 0 ∨ m.kd = 5 ∨ m.kd = 7)) (hf : ¬ (m.kd = 1 ∧ (s.tid m.tid.toNat).st = 0)) (h : nextE s m = 0) :
    moveE (s.tid m.tid.toNat) m s.made = 0 ∧ nextS s m = (s.pends (if m.kd = 4 ∧ (s.tid m.tid.toNat).st = 3 then (s.tid m.tid.toNat).qs else [])).put m.tid.toNat (moveC (s.tid m.tid.toNat) m s.made) := by
  obtain ⟨hs, hm⟩ := next_may h
  have hn := next_m hs hm hk hf
  have hmv : moveE (s.tid m.tid.toNat) m s.made = 0 := by
    by_cases hx : moveE (s.tid m.tid.toNat) m s.made = 0
    · exact hx
    · rw [hn.1, if_pos hx] at h; exact absurd h hx
  exact ⟨hmv, by unfold nextS; rw [if_pos h, hn.2]⟩
theorem tid_may {s : Sta} {m : Mt} (h : nextE s m = 0) : m.tid.toNat < 3 ∧ mayB (s.tid m.tid.toNat) = true := by
  obtain ⟨hs, hm⟩ := next_may h
  have ht : m.tid.toNat < 3 := by have := (mayM_fit hm).2.1; have := (mayM_fit hm).2.2.1; omega
  exact ⟨ht, ((okT_iff s _).1 (((mayS_iff s).1 hs).2.2.1 _ ht)).1⟩
theorem co_pends {c : Co} (h : mayB c = true) : (∀ y ∈ c.qs, pendB y = true) ∧ c.qs.Pairwise aheadP := by
  by_cases h0 : c.st = 0
  · rw [may_none h h0]
    exact ⟨fun y hy => (by cases hy), List.Pairwise.nil⟩
  · have hr := (range_iff c).1 (may_range h h0)
    refine ⟨List.all_eq_true.1 hr.1, adj_pw ahead_tr ?_⟩
    have := hr.2.2.2.2.2.2.2.2.2.2
    unfold adjB at this
    simpa using this
theorem ofs_other {s : Sta} {m : Mt} {want wait : Nat → Int} {yes : Nat → Bool} (h : OfI s want wait yes) (hn : nextE s m = 0) (h6 : ¬ m.kd = 6) (h2 : ¬ m.kd = 2) (h3 : ¬ m.kd = 3) (h4 : ¬ m.kd = 4) (h5 : ¬ m.kd = 5) : OfI (nextS s m) want wait yes := by
  obtain ⟨hs, hm⟩ := next_may hn
  have hb := fit_kd (mayM_fit hm).2.2.2
  obtain ⟨ht, hc⟩ := tid_may hn
  by_cases h0 : m.kd = 0
  · have := next_0 hs hm h0
    rw [this.1] at hn
    by_cases h8 : s.made = 8
    · rw [if_pos h8] at hn; cases hn
    · rw [this.2, if_neg h8]; exact h.made _
  by_cases h7 : m.kd = 7
  · have := next_7 hs hm h7
    rw [this.1] at hn
    by_cases hx : mayS { s with made := m.nx } = true
    · rw [this.2, if_pos hx]; exact h.made _
    · rw [if_neg hx] at hn; cases hn
  have h1 : m.kd = 1 := by omega
  by_cases hf : (s.tid m.tid.toNat).st = 0
  · have := next_f hs hm h1 hf
    rw [this.1] at hn
    by_cases h8 : s.made = 8
    · rw [if_pos h8] at hn; cases hn
    · rw [this.2, if_neg h8]
      have hi := (mayS_iff s).1 hs
      have hif := init_fresh hc hf (n := s.made + 1) (tm := m.tm) (by omega) (by omega) (fit1 hm h1).1 (fit1 hm h1).2
      refine OfI.made (s := s.put m.tid.toNat _) ?_ _
      refine h.put (fun u hu g hg => ?_) (fun _ _ _ => rfl) ?_
      · by_cases e : u = m.tid.toNat
        · rw [if_pos e, h.wait u hu g hg, e, hif.2, may_none hc hf]; rfl
        · rw [if_neg e]
      · rw [hif.2]; exact ⟨fun x => absurd x (show ¬ (1 : Int) = 3 by decide), fun x => absurd x (show ¬ (1 : Int) = 4 by decide)⟩
  · obtain ⟨hmv, hts⟩ := next_ok_m (by omega) (fun x => hf x.2) hn
    rw [hts, if_neg (fun x => h4 x.1)]
    unfold moveE at hmv
    unfold moveC
    rw [if_pos h1] at hmv ⊢
    have hq := init_qs hc hmv
    refine h.put (fun u hu g hg => ?_) (fun _ _ _ => rfl) ?_
    · by_cases e : u = m.tid.toNat
      · rw [if_pos e, h.wait u hu g hg, e, hq.1, hq.2.1]
      · rw [if_neg e]
    · rw [hq.2.2]; exact ⟨fun x => absurd x (by decide), fun x => absurd x (by decide)⟩
theorem ofs_5 {s : Sta} {m : Mt} {want wait : Nat → Int} {yes : Nat → Bool} (h : OfI s want wait yes) (hn : nextE s m = 0) (hk : m.kd = 5) : OfI (nextS s m) (upd want (idxP m.p) m.p.2.2) wait yes := by
  obtain ⟨hs, hm⟩ := next_may hn
  rw [(next_5 hs hm hk).2]
  exact h.pend m.p
theorem ofs_2 {s : Sta} {m : Mt} {want wait : Nat → Int} {yes : Nat → Bool} (h : OfI s want wait yes) (hn : nextE s m = 0) (hk : m.kd = 2) : OfI (nextS s m) want (upd wait (m.tid.toNat * 6 + idxP m.p) (m.p.2.2 + 1)) yes := by
  obtain ⟨hs, hm⟩ := next_may hn
  obtain ⟨ht, hc⟩ := tid_may hn
  obtain ⟨hmv, hts⟩ := next_ok_m (by omega) (by omega) hn
  have hp := fit25 hm (.inl hk)
  have hlt := idx_lt hp
  rw [hts, if_neg (by omega)]
  unfold moveE at hmv
  unfold moveC
  rw [if_neg (by omega), if_pos hk] at hmv ⊢
  have hso := (set_ok hmv).2
  rw [hso]
  refine h.put (fun u hu g hg => ?_) (fun _ _ _ => rfl) ⟨fun x => absurd x (show ¬ (2 : Int) = 3 by decide), fun x => absurd x (show ¬ (2 : Int) = 4 by decide)⟩
  show (if u * 6 + g = m.tid.toNat * 6 + idxP m.p then m.p.2.2 + 1 else wait (u * 6 + g)) = if u = m.tid.toNat then waitL (keepF (fun y => plI y m.p) (s.tid m.tid.toNat).qs m.p) g else wait (u * 6 + g)
  by_cases e : u = m.tid.toNat
  · rw [if_pos e, waitL_keep hp g _ (co_pends hc).1, e]
    by_cases e2 : g = idxP m.p
    · rw [if_pos (by rw [e2]), if_pos e2]
    · rw [if_neg (by omega), if_neg e2, ← h.wait _ ht g hg]
  · rw [if_neg (by omega), if_neg e]
theorem ofs_3 {s : Sta} {m : Mt} {want wait : Nat → Int} {yes : Nat → Bool} (h : OfI s want wait yes) (hn : nextE s m = 0) (hk : m.kd = 3) : OfI (nextS s m) want wait (upd yes m.tid.toNat m.yes) := by
  obtain ⟨hs, hm⟩ := next_may hn
  obtain ⟨ht, hc⟩ := tid_may hn
  obtain ⟨hmv, hts⟩ := next_ok_m (by omega) (by omega) hn
  rw [hts, if_neg (by omega)]
  unfold moveE at hmv
  unfold moveC
  rw [if_neg (by omega), if_neg (by omega), if_pos hk] at hmv ⊢
  have hpc : prepC (s.tid m.tid.toNat) m.yes m.th = { s.tid m.tid.toNat with st := if m.yes then 3 else 4, th := m.th } := by unfold prepC; rw [if_pos hmv]
  rw [hpc]
  refine h.put (fun u hu g hg => ?_) (fun u _ hu => if_neg hu) ?_
  · by_cases e : u = m.tid.toNat
    · rw [if_pos e, h.wait u hu g hg, e]
    · rw [if_neg e]
  · show ((if m.yes then (3 : Int) else 4) = 3 → (if m.tid.toNat = m.tid.toNat then m.yes else _) = true) ∧ ((if m.yes then (3 : Int) else 4) = 4 → (if m.tid.toNat = m.tid.toNat then m.yes else _) = false)
    rw [if_pos rfl]
    cases m.yes
    · exact ⟨fun x => (by cases x), fun _ => rfl⟩
    · exact ⟨fun _ => rfl, fun x => (by cases x)⟩
theorem ofs_4 {s : Sta} {m : Mt} {want wait want' wait' : Nat → Int} {yes : Nat → Bool} (h : OfI s want wait yes) (hn : nextE s m = 0) (hk : m.kd = 4)
    (hw : ∀ g, g < 6 → want' g = if yes m.tid.toNat = true ∧ 0 < wait (m.tid.toNat * 6 + g) then wait (m.tid.toNat * 6 + g) - 1 else want g)
    (hv : ∀ u, u < 3 → ∀ g, g < 6 → wait' (u * 6 + g) = if u = m.tid.toNat then 0 else wait (u * 6 + g)) : OfI (nextS s m) want' wait' yes := by
  obtain ⟨hs, hm⟩ := next_may hn
  obtain ⟨ht, hc⟩ := tid_may hn
  obtain ⟨hmv, hts⟩ := next_ok_m (by omega) (by omega) hn
  unfold moveE at hmv
  rw [if_neg (by omega), if_neg (by omega), if_neg (by omega), if_pos hk] at hmv
  have hst := begins_3 (chk_begins hmv)
  have hcc : moveC (s.tid m.tid.toNat) m s.made = compC (s.tid m.tid.toNat) := by unfold moveC; rw [if_neg (by omega), if_neg (by omega), if_neg (by omega), if_pos hk]
  have hcq : (compC (s.tid m.tid.toNat)).qs = [] ∧ ¬ (compC (s.tid m.tid.toNat)).st = 3 ∧ ¬ (compC (s.tid m.tid.toNat)).st = 4 := by
    unfold compC
    rw [if_neg (by rw [hmv]; simp)]
    split
    · exact ⟨rfl, (show ¬ (1 : Int) = 3 by decide), (show ¬ (1 : Int) = 4 by decide)⟩
    · split
      · exact ⟨rfl, (show ¬ (6 : Int) = 3 by decide), (show ¬ (6 : Int) = 4 by decide)⟩
      · exact ⟨rfl, (show ¬ (5 : Int) = 3 by decide), (show ¬ (5 : Int) = 4 by decide)⟩
  have hp := co_pends hc
  rw [hts, hcc]
  have h1 : OfI (s.pends (if m.kd = 4 ∧ (s.tid m.tid.toNat).st = 3 then (s.tid m.tid.toNat).qs else [])) want' wait yes := by
    refine ⟨fun g hg => ?_, fun u hu g hg => by rw [pends_tid]; exact h.wait u hu g hg, fun u hu => by rw [pends_tid]; exact h.yes u hu⟩
    rw [hw g hg, h.wait _ ht g hg]
    rcases hst with h3 | h4
    · have hL : (if m.kd = 4 ∧ (s.tid m.tid.toNat).st = 3 then (s.tid m.tid.toNat).qs else []) = (s.tid m.tid.toNat).qs := if_pos ⟨hk, h3⟩
      rw [hL, pends_gr g _ s hp.1 hp.2, ((h.yes _ ht).1 h3)]
      by_cases hx : 0 < waitL (s.tid m.tid.toNat).qs g
      · rw [if_pos ⟨rfl, hx⟩, if_pos hx]
      · rw [if_neg (fun x => hx x.2), if_neg hx, h.want g hg]
    · have hL : (if m.kd = 4 ∧ (s.tid m.tid.toNat).st = 3 then (s.tid m.tid.toNat).qs else []) = ([] : List Pd) := if_neg (fun x => by have := x.2; omega)
      rw [hL, ((h.yes _ ht).2 h4), if_neg (fun x => by cases x.1), h.want g hg]
      rfl
  refine h1.put (fun u hu g hg => ?_) (fun _ _ _ => rfl) ⟨fun x => absurd x hcq.2.1, fun x => absurd x hcq.2.2⟩
  rw [hv u hu g hg, hcq.1]
  rfl
end Go.Proofs.YtbpkckahonmpkaaDoor
namespace Go.Proofs.YtbpkckahonmpkaaDoor
open Go.RowKit
def arrI (n : Nat) (f : Nat → Int) : Array Value := ((List.range n).map fun i => Value.int .i64 (f i)).toArray
def arrB (n : Nat) (f : Nat → Bool) : Array Value := ((List.range n).map fun i => Value.bool (f i)).toArray
theorem arrI_at (n : Nat) (f : Nat → Int) {i : Nat} (h : i < n) : (arrI n f)[i]? = some (.int .i64 (f i)) := by
  unfold arrI
  simp [h]
theorem arrB_at (n : Nat) (f : Nat → Bool) {i : Nat} (h : i < n) : (arrB n f)[i]? = some (.bool (f i)) := by
  unfold arrB
  simp [h]
theorem arrI_set (n : Nat) (f : Nat → Int) (i : Nat) (k : Int) : (arrI n f).setIfInBounds i (.int .i64 k) = arrI n (upd f i k) := by
  apply Array.ext
  · simp [arrI]
  · intro j h1 h2
    simp only [arrI, List.setIfInBounds_toArray, List.getElem_toArray, List.getElem_set, List.getElem_map, List.getElem_range, upd]
    by_cases e : i = j
    · rw [if_pos e, if_pos e.symm]
    · rw [if_neg e, if_neg (fun x => e x.symm)]
theorem arrB_set (n : Nat) (f : Nat → Bool) (i : Nat) (k : Bool) : (arrB n f).setIfInBounds i (.bool k) = arrB n (upd f i k) := by
  apply Array.ext
  · simp [arrB]
  · intro j h1 h2
    simp only [arrB, List.setIfInBounds_toArray, List.getElem_toArray, List.getElem_set, List.getElem_map, List.getElem_range, upd]
    by_cases e : i = j
    · rw [if_pos e, if_pos e.symm]
    · rw [if_neg e, if_neg (fun x => e x.symm)]
theorem arrI_congr {n : Nat} {f g : Nat → Int} (h : ∀ i, i < n → f i = g i) : arrI n f = arrI n g := by
  unfold arrI
  congr 1
  apply List.map_congr_left
  intro i hi
  rw [h i (List.mem_range.1 hi)]
theorem arI_cell {W : World} {b n : Nat} {t : TypeId} {f : Nat → Int} (h : Blk W b t (arrI n f)) {i : Nat} (hi : i < n) : W.cell? ⟨b, i, none⟩ = some (.int .i64 (f i)) := (h.cell i).trans (arrI_at n f hi)
theorem arB_cell {W : World} {b n : Nat} {t : TypeId} {f : Nat → Bool} (h : Blk W b t (arrB n f)) {i : Nat} (hi : i < n) : W.cell? ⟨b, i, none⟩ = some (.bool (f i)) := (h.cell i).trans (arrB_at n f hi)
theorem arI_put {W : World} {b n : Nat} {t : TypeId} {f : Nat → Int} (h : Blk W b t (arrI n f)) (i : Nat) (hi : i < n) (k : Int) :
    ∃ W', (storeVar 3 ⟨b, i, none⟩ (.int .i64 k)).run Tryd.prog W = .ok () W' ∧ Blk W' b t (arrI n (upd f i k)) ∧ (∀ m (w : World), m ≤ b → Below m w W → Below m w W') ∧ (∀ y, y ≠ b → W'.heap[y]? = W.heap[y]?) ∧ W'.heap.size = W.heap.size :=
  ⟨_, store_intS k (arI_cell h hi) (h.frozen i), by rw [← arrI_set]; exact h.set_ i _, fun m w hb hB => hB.setCell (p := ⟨b, i, none⟩) hb _, fun y hy => Below.heap_setCell _ _ _ _ hy, by simp [World.setCell]⟩
theorem arB_put {W : World} {b n : Nat} {t : TypeId} {f : Nat → Bool} (h : Blk W b t (arrB n f)) (i : Nat) (hi : i < n) (k : Bool) :
    ∃ W', (storeVar 4 ⟨b, i, none⟩ (.bool k)).run Tryd.prog W = .ok () W' ∧ Blk W' b t (arrB n (upd f i k)) ∧ (∀ m (w : World), m ≤ b → Below m w W → Below m w W') ∧ (∀ y, y ≠ b → W'.heap[y]? = W.heap[y]?) ∧ W'.heap.size = W.heap.size :=
  ⟨_, store_boolM k (arB_cell h hi) (h.frozen i), by rw [← arrB_set]; exact h.set_ i _, fun m w hb hB => hB.setCell (p := ⟨b, i, none⟩) hb _, fun y hy => Below.heap_setCell _ _ _ _ hy, by simp [World.setCell]⟩
theorem waitL_bd (g : Nat) : ∀ l : List Pd, (∀ y ∈ l, pendB y = true) → 0 ≤ waitL l g ∧ waitL l g ≤ 1048577
  | [], _ => ⟨Int.le_refl 0, (show (0 : Int) ≤ 1048577 by decide)⟩
  | a :: t, h => by
    have ha := (pendB_iff a).1 (h a List.mem_cons_self)
    show 0 ≤ (if idxP a = g then a.2.2 + 1 else waitL t g) ∧ (if idxP a = g then a.2.2 + 1 else waitL t g) ≤ 1048577
    split
    · omega
    · exact waitL_bd g t (fun y hy => h y (List.mem_cons_of_mem _ hy))
def bigL (l : List MtM) : Bool := decide (200 < l.length) || l.any fun y => bigT y.x.c
theorem bigL_no {l : List MtM} (h : bigL l = false) : l.length ≤ 200 ∧ ∀ y ∈ l, bigT y.x.c = false := by
  unfold bigL at h
  simp only [Bool.or_eq_false_iff, decide_eq_false_iff_not, Nat.not_lt, List.any_eq_false] at h
  exact ⟨h.1, fun y hy => by simpa using h.2 y hy⟩
section
attribute [-go_sem] loadCells storeVar
set_option maxRecDepth 100000 in
set_option maxHeartbeats 4000000 in
theorem greatL_any (l : List MtM) (A : Option Addr) (c : Nat) (w : World) (hr : Reads w w.heap.size 17 A l.length (cellsE l)) :
    Calls Tryd.prog 13 #[.slice A l.length c] w fun e w' => e = .returned (.bool (bigL l)) ∧ Below w.heap.size w w' := by
  have HR := Lib.hid hr
  clear hr
  go_enter Tryd.func13, Tryd.ntmps13
  go_wp2_with fail
  go_loopg [3] 201 (fun mm y wq => ∃ (k : Nat), k ≤ l.length ∧ k ≤ 201 ∧ y = .int .i64 k ∧ mm = 201 - k ∧ (∀ j z, j < k → l[j]? = some z → bigT z.x.c = false) ∧ Below w.heap.size w wq)
  case atStart => exact ⟨0, Nat.zero_le _, by omega, rfl, rfl, fun j z hj => by omega, Below.refl _ _⟩
  case round =>
    obtain ⟨k, hk, hk2, rfl, hmm, hok, hbw⟩ := hrel
    have HMM := Lib.hid hmm
    have OK := Lib.hid hok
    have BW' := Lib.hid hbw
    clear hmm hok hbw
    by_cases hlt : k < l.length
    · have dlt : decide ((k : Int) < ((l.length : Nat) : Int)) = true := decide_eq_true (by omega)
      by_cases h200 : k ≤ 200
      · have d200 : decide ((k : Int) ≤ 200) = true := decide_eq_true (by omega)
        have j1 : (0 : Int) ≤ (k : Int) := by omega
        have j2 : (k : Int) < ((l.length : Nat) : Int) := by omega
        obtain ⟨y, hy⟩ : ∃ y, l[k]? = some y := ⟨_, List.getElem?_eq_getElem hlt⟩
        obtain ⟨b1, o1, rfl, hb1, hc1⟩ := (HR.out.below BW'.out).plainE (by omega)
        have lk := hc1 k y hy
        have GA := Lib.hid (rGreat19_any y.x y.A y.D y.c y.e wr)
        have HY := Lib.hid hy
        obtain ⟨u, hu⟩ : ∃ u, bigT y.x.c = u := ⟨_, rfl⟩
        rw [hu] at GA
        have HU := Lib.hid hu
        clear hu hy hc1 hb1
        go_wp2_with fail
        refine GA.out.mono ?_
        rintro e w3 ⟨rfl, b3⟩
        have B3 := Lib.hid (BW'.out.trans (b3.mono BW'.out.size))
        clear b3 lk
        cases u
        · go_wp2_with fail
          go_roundg (gk - 1)
          case measure => have := HMM.out; omega
          case rel =>
            refine ⟨k + 1, by omega, by omega, by go_num, by have := HMM.out; omega, fun j z hj hz => ?_, B3.out⟩
            rcases Nat.lt_succ_iff_lt_or_eq.1 hj with h | h
            · exact OK.out j z h hz
            · rw [h, HY.out] at hz
              injection hz with hz
              rw [← hz, HU.out]
        · have HL := Lib.hid (show bigL l = true by
            unfold bigL
            rw [List.any_eq_true.2 ⟨y, List.mem_of_getElem? HY.out, HU.out⟩, Bool.or_true])
          go_wp2_with fail
          go_ret
          rw [HL.out]
          exact ⟨rfl, B3.out⟩
      · have d200 : decide ((k : Int) ≤ 200) = false := decide_eq_false (by omega)
        have dn : decide ((200 : Int) < ((l.length : Nat) : Int)) = true := decide_eq_true (by omega)
        have HL := Lib.hid (show bigL l = true by
          unfold bigL
          rw [decide_eq_true (show 200 < l.length by omega), Bool.true_or])
        go_wp2_with fail
        go_ret
        rw [HL.out]
        exact ⟨rfl, BW'.out⟩
    · have dlt : decide ((k : Int) < ((l.length : Nat) : Int)) = false := decide_eq_false (by omega)
      obtain ⟨v, hv⟩ : ∃ v, decide ((200 : Int) < ((l.length : Nat) : Int)) = v := ⟨_, rfl⟩
      have HL := Lib.hid (show bigL l = v by
        unfold bigL
        have hkl : k = l.length := by omega
        have h0 : l.any (fun y => bigT y.x.c) = false := by
          rw [List.any_eq_false]
          intro y hy
          obtain ⟨j, hj⟩ := List.getElem?_of_mem hy
          rw [OK.out j y (by rw [hkl]; exact (List.getElem?_eq_some_iff.1 hj).1) hj]
          decide
        rw [h0, Bool.or_false, ← hv]
        exact decide_eq_decide.2 (by omega))
      go_wp2_with fail
      go_ret
      rw [HL.out]
      exact ⟨rfl, BW'.out⟩
end
end Go.Proofs.YtbpkckahonmpkaaDoor
