/-
  Arguments with lists of numbers and of offsets, opened: how their lists lie in memory. (After the guide's page on structs.)
  Layer 20: what the document says of four entries (wakes); which states and entries are too great.
  Layer 20: whether two states are the same, by the document.
  Layer 21: what the document says of a transaction that is 3 ticks old.
  Whole states as they are handed in.
  The statement MetaNext: its walk.
  Layer 20, plain: what waits in a transactional id, what its commit tells: the law of MetaOffsets.
  Arrays of numbers and of Bools in a block; which rows of entries are too great.
  Layer 20: entries folded, by the document; the statement MetaFolds: its walk.
-/
import Derived.Test.YtbpkckahonmpkaaGreatDoorMeFoldsProofP21
import Derived.Great.BuildSlice
import Derived.Laws.StructEq
import Derived.Deep.RegionHeld3
import Derived.Deep.Slices
import Derived.Deep.Fields
import Derived.ChangeSame
import Derived.OpenShut
import Derived.Lib.SmallJoins
set_option linter.unusedVariables false
set_option linter.unusedSimpArgs false
namespace Go.Proofs.YtbpkckahonmpkaaGreatDoor
open Go.RowKit
def oneS (made : Int) (c : Co) (g : Nat → Int) : Sta := ⟨made, fun k => if k = 0 then c else Co0, g⟩
theorem oneS_put (made : Int) (c d : Co) (g : Nat → Int) : (oneS made c g).put 0 d = oneS made d g := by
  unfold oneS Sta.put
  congr 1
  funext k
  show (if k = 0 then d else if k = 0 then c else Co0) = if k = 0 then d else Co0
  by_cases h : k = 0
  · rw [if_pos h, if_pos h]
  · rw [if_neg h, if_neg h, if_neg h]
theorem co0_may : mayB Co0 = true := by unfold mayB; simp [Co0, sameB]
theorem oneS_may {made : Int} {c : Co} {g : Nat → Int} (hc : mayB c = true) (hp : c.pid ≤ made) (h0 : 0 ≤ made) (h8 : made ≤ 8) (hg : ∀ j, -1 ≤ g j ∧ g j ≤ 1048576) : mayS (oneS made c g) = true := by
  refine (mayS_iff _).2 ⟨h0, h8, fun k hk => (okT_iff _ k).2 ?_, fun j _ => ?_⟩
  · by_cases h : k = 0
    · subst h
      exact ⟨hc, hp, fun j hj => absurd hj (Nat.not_lt_zero j)⟩
    · have e : (oneS made c g).tid k = Co0 := if_neg h
      rw [e]
      exact ⟨co0_may, h0, fun _ _ => .inl rfl⟩
  · show (decide (-1 ≤ g j) && decide (g j ≤ 1048576)) = true
    rw [decide_eq_true (hg j).1, decide_eq_true (hg j).2]; rfl
def we1 : Mt := ⟨1, 0, 5, Pd0, false, 0, Co0, 0⟩
def we2 : Mt := ⟨2, 0, 0, (1, 2, 9), false, 0, Co0, 0⟩
def we3 : Mt := ⟨3, 0, 0, Pd0, true, 0, Co0, 0⟩
def we4 : Mt := ⟨4, 0, 0, Pd0, false, 0, Co0, 0⟩
theorem we1_may : mayM we1 = true := by unfold mayM fitM bareM sameM sameB; simp [we1, Co0, Pd0]
theorem we2_may : mayM we2 = true := by unfold mayM fitM bareM sameM sameB; simp [we2, Co0, Pd0, pendB, partB]
theorem we3_may : mayM we3 = true := by unfold mayM fitM bareM sameM sameB; simp [we3, Co0, Pd0]
theorem we4_may : mayM we4 = true := by unfold mayM fitM bareM sameM sameB; simp [we4, Co0, Pd0]
def wc1 : Co := ⟨1, 1, 0, 5, 0, [], [], 0⟩
def wc2 : Co := ⟨2, 1, 0, 5, 0, [], [(1, 2, 9)], 0⟩
def wc3 : Co := ⟨3, 1, 0, 5, 0, [], [(1, 2, 9)], 0⟩
def wc4 : Co := ⟨5, 1, 0, 5, 0, [], [], 0⟩
theorem wc1_may : mayB wc1 = true := may_new 1 1 0 5 (.inl rfl) ⟨by decide, by decide⟩ ⟨by decide, by decide⟩ ⟨by decide, by decide⟩
theorem wc2_set : setE wc1 (1, 2, 9) = 0 ∧ setC wc1 (1, 2, 9) = wc2 := by
  have h : setE wc1 (1, 2, 9) = 0 := by
    unfold setE chkE
    rw [if_neg (by rw [wc1_may]; decide), if_neg (by decide)]
  exact ⟨h, (set_ok h).2⟩
theorem wc2_may : mayB wc2 = true := by rw [← wc2_set.2]; exact (set_ok wc2_set.1).1
theorem wc3_prep : prepE wc2 true 0 = 0 ∧ prepC wc2 true 0 = wc3 := by
  have h : prepE wc2 true 0 = 0 := by
    unfold prepE
    rw [if_neg (by simp), if_neg (by unfold chkE; rw [if_neg (by rw [wc2_may]; decide), if_neg (by decide)]; simp), if_neg (by simp)]
  refine ⟨h, ?_⟩
  unfold prepC
  rw [if_pos h]
  rfl
theorem wc3_may : mayB wc3 = true := by
  rw [← wc3_prep.2]
  exact (mv_fact (x := ⟨3, 0, 0, Pd0, true, []⟩) wc2_may (by unfold mvE; simpa using wc3_prep.1)).may
theorem wc4_comp : chkE wc3 3 true = 0 ∧ compC wc3 = wc4 := by
  have h : chkE wc3 3 true = 0 := by
    unfold chkE
    rw [if_neg (by rw [wc3_may]; decide), if_neg (by decide)]
  refine ⟨h, ?_⟩
  unfold compC
  rw [if_neg (by rw [h]; simp), if_neg (by decide), if_neg (by decide)]
  rfl
theorem wc4_may : mayB wc4 = true := may_new 5 1 0 5 (.inr (.inl rfl)) ⟨by decide, by decide⟩ ⟨by decide, by decide⟩ ⟨by decide, by decide⟩
def gr0 : Nat → Int := fun _ => -1
theorem gr0_ok : ∀ j, -1 ≤ gr0 j ∧ gr0 j ≤ 1048576 := fun _ => ⟨by unfold gr0; decide, by unfold gr0; decide⟩
theorem sta0_one : sta0 = oneS 0 Co0 gr0 := by
  unfold sta0 oneS gr0
  congr 1
  funext k
  split <;> rfl
theorem ws1 : nextE sta0 we1 = 0 ∧ nextS sta0 we1 = oneS 1 wc1 gr0 := by
  rw [sta0_one]
  have hs : mayS (oneS 0 Co0 gr0) = true := oneS_may co0_may (by decide) (by decide) (by decide) gr0_ok
  have h := next_f hs we1_may rfl (show ((oneS 0 Co0 gr0).tid 0).st = 0 from rfl)
  rw [if_neg (by decide), if_neg (by decide)] at h
  refine ⟨h.1, ?_⟩
  rw [h.2, (init_fresh (c := (oneS 0 Co0 gr0).tid we1.tid.toNat) co0_may rfl (n := (oneS 0 Co0 gr0).made + 1) (tm := we1.tm) (by decide) (by decide) (by decide) (by decide)).2]
  have := oneS_put 0 Co0 wc1 gr0
  show ({ (oneS 0 Co0 gr0).put 0 wc1 with made := 1 } : Sta) = _
  rw [this]; rfl
theorem ws_move {c d : Co} {m : Mt} (hc : mayB c = true) (hd : mayB d = true) (hm : mayM m = true) (ht : m.tid = 0) (hp : c.pid = 1) (hp2 : d.pid = 1) (g g2 : Nat → Int) (hg : ∀ j, -1 ≤ g j ∧ g j ≤ 1048576) (hg2 : ∀ j, -1 ≤ g2 j ∧ g2 j ≤ 1048576)
    (hk : ¬ (m.kd = 0 ∨ m.kd = 5 ∨ m.kd = 7)) (hf : ¬ (m.kd = 1 ∧ c.st = 0)) (he : moveE c m 1 = 0) (hdd : moveC c m 1 = d) (hpn : (oneS 1 c g).pends (if m.kd = 4 ∧ c.st = 3 then c.qs else []) = oneS 1 c g2) :
    nextE (oneS 1 c g) m = 0 ∧ nextS (oneS 1 c g) m = oneS 1 d g2 := by
  have hs : mayS (oneS 1 c g) = true := oneS_may hc (by omega) (by decide) (by decide) hg
  have htn : m.tid.toNat = 0 := by rw [ht]; rfl
  have h := next_m hs hm hk (by rw [htn]; exact hf)
  rw [htn] at h
  have e0 : (oneS 1 c g).tid 0 = c := rfl
  have em : (oneS 1 c g).made = 1 := rfl
  rw [e0, em, he, hdd, hpn, oneS_put] at h
  have hn : nextE (oneS 1 c g) m = 0 := by
    rw [h.1, h.2, if_neg (by simp), if_pos (oneS_may hd (by omega) (by decide) (by decide) hg2)]
  exact ⟨hn, by unfold nextS; rw [if_pos hn, h.2]⟩
theorem ws2 : nextE (oneS 1 wc1 gr0) we2 = 0 ∧ nextS (oneS 1 wc1 gr0) we2 = oneS 1 wc2 gr0 :=
  ws_move wc1_may wc2_may we2_may rfl rfl rfl gr0 gr0 gr0_ok gr0_ok (by decide) (by decide) wc2_set.1 wc2_set.2 rfl
theorem ws3 : nextE (oneS 1 wc2 gr0) we3 = 0 ∧ nextS (oneS 1 wc2 gr0) we3 = oneS 1 wc3 gr0 :=
  ws_move wc2_may wc3_may we3_may rfl rfl rfl gr0 gr0 gr0_ok gr0_ok (by decide) (by decide) wc3_prep.1 wc3_prep.2 rfl
def gr4 : Nat → Int := fun j => if j = 5 then 9 else gr0 j
theorem gr4_ok : ∀ j, -1 ≤ gr4 j ∧ gr4 j ≤ 1048576 := fun j => by
  unfold gr4
  split
  · exact ⟨by decide, by decide⟩
  · exact gr0_ok j
theorem ws4 : nextE (oneS 1 wc3 gr0) we4 = 0 ∧ nextS (oneS 1 wc3 gr0) we4 = oneS 1 wc4 gr4 :=
  ws_move wc3_may wc4_may we4_may rfl rfl rfl gr0 gr4 gr0_ok gr4_ok (by decide) (by decide) wc4_comp.1 wc4_comp.2 rfl
def wL : List MtM := [⟨we1, none, none, 0, 0⟩, ⟨we2, none, none, 0, 0⟩, ⟨we3, none, none, 0, 0⟩, ⟨we4, none, none, 0, 0⟩]
theorem wL_fold : foldM sta0 (wL.map (·.x)) 0 = (oneS 1 wc4 gr4, 4, 0) := by
  show foldM sta0 [we1, we2, we3, we4] 0 = _
  unfold foldM
  rw [if_pos ws1.1, ws1.2]
  unfold foldM
  rw [if_pos ws2.1, ws2.2]
  unfold foldM
  rw [if_pos ws3.1, ws3.2]
  unfold foldM
  rw [if_pos ws4.1, ws4.2]
  rfl
theorem wL_R (w : World) (B : Nat) : MtsR w B wL := by
  intro y hy
  unfold wL at hy
  simp only [List.mem_cons, List.not_mem_nil, or_false] at hy
  rcases hy with rfl | rfl | rfl | rfl <;> exact co0_R w B
section
attribute [-go_sem] loadCells storeVar
set_option maxRecDepth 100000 in
set_option maxHeartbeats 4000000 in
theorem of_1 (s : Sta) (a : Sad) (w : World) (hp : (s.tid 0).pid = 1) :
    Calls Tryz.prog 32 #[.agg (stX s a), .int .i64 1] w fun e w' => e = .returned (.tuple #[.int .i64 0, .bool true]) ∧ Below w.heap.size w w' := by
  obtain ⟨W0, hW0⟩ : ∃ W0, W0 = w.alloc (.cells (stX s a) 34) := ⟨_, rfl⟩
  have B0 : Below w.heap.size w W0 := by rw [hW0]; exact bal (Below.refl _ _) _
  have K1 : Blk W0 w.heap.size 34 (stX s a) := by rw [hW0]; exact Blk.new w 34 (stX s a)
  have HW := Lib.hid hW0
  have HB := Lib.hid B0
  have x1 := st_tids K1
  have ix := st_index0 s a W0
  obtain ⟨W2, st2, k2, b2, s2⟩ := bk_fresh (P := Tryz.prog) W0 29 #[.int .i8 0, .int .i64 0, .int .i64 0, .int .i64 0, .int .i64 0, .slice none 0 0, .slice none 0 0, .int .i64 0] #[.int .i8 (s.tid 0).st, .int .i64 (s.tid 0).pid, .int .i64 (s.tid 0).ep, .int .i64 (s.tid 0).tm, .int .i64 (s.tid 0).th, .slice (a.A 0) (s.tid 0).ps.length (a.c 0), .slice (a.D 0) (s.tid 0).qs.length (a.e 0), .int .i64 (s.tid 0).ag] 8 infoCoS rfl rfl (by simp [Value.oneCell'])
  have y1 : W2.cell? ⟨W0.heap.size, 1, none⟩ = some (.int .i64 1) := by rw [← hp]; exact k2.cell 1
  have B2 := Lib.hid (B0.trans (b2.mono B0.size))
  clear hW0 B0 K1 k2 b2 s2 hp
  go_enter Tryz.func32, Tryz.ntmps32
  go_upto_region 1 with (fail)
  rw [← HW.out]
  go_wp2_with fail
  go_loopg [10] 1 (fun mm y wq => y = .int .i64 0 ∧ mm = 1 ∧ wq = W0)
  case atStart => exact ⟨rfl, rfl, rfl⟩
  obtain ⟨rfl, hmm, rfl⟩ := hrel
  clear hmm
  go_wp2_with fail
  go_ret2
  exact ⟨rfl, B2.out⟩
set_option maxRecDepth 100000 in
set_option maxHeartbeats 4000000 in
theorem plain_1 (s : Sta) (a : Sad) (w : World) (hp : (s.tid 0).pid = 1) (hm : s.made = 1) :
    Calls Tryz.prog 33 #[.agg (stX s a), .int .i64 1] w fun e w' => e = .returned (.bool false) ∧ Below w.heap.size w w' := by
  obtain ⟨W0, hW0⟩ : ∃ W0, W0 = w.alloc (.cells (stX s a) 34) := ⟨_, rfl⟩
  have B0 : Below w.heap.size w W0 := by rw [hW0]; exact bal (Below.refl _ _) _
  have K1 : Blk W0 w.heap.size 34 (stX s a) := by rw [hW0]; exact Blk.new w 34 (stX s a)
  have HW := Lib.hid hW0
  have HB := Lib.hid B0
  have HK := Lib.hid K1
  have HM := Lib.hid hm
  have l1 := st_load K1
  have OF := Lib.hid (of_1 s a W0 hp)
  clear hW0 B0 K1 hp hm
  go_enter Tryz.func33, Tryz.ntmps33
  go_upto_region 1 with (fail)
  rw [← HW.out]
  go_wp2_with fail
  refine OF.out.mono ?_
  rintro e w1 ⟨rfl, b1⟩
  have xm : w1.cell? ⟨w.heap.size, 0, none⟩ = some (.int .i64 1) := by rw [← HM.out]; exact st_made (HK.out.below b1 HK.out.lt)
  have B1 := Lib.hid (HB.out.trans (b1.mono HB.out.size))
  clear b1 l1
  go_wp2_with fail
  go_ret
  exact ⟨rfl, B1.out⟩
section
attribute [-go_sem] Instr.build Instr.buildSlice
theorem wbs (W : World) : (Instr.buildSlice 22 4 #[(0, .agg (mtX we1 none none 0 0)), (1, .agg (mtX we2 none none 0 0)), (2, .agg (mtX we3 none none 0 0)), (3, .agg (mtX we4 none none 0 0))]).run Tryz.prog W = .ok (.slice (some ⟨W.heap.size, 0, none⟩) 4 4) (W.alloc (.cells (cellsE wL).toArray 42)) := by kernel_rfl
set_option maxRecDepth 100000 in
set_option maxHeartbeats 8000000 in
theorem wakes20 (w : World) (hg : HasET w) : Calls Tryz.prog 10 #[] w fun e w' => e = .returned (.bool true) ∧ Below w.heap.size w w' := by
  have bd1 : ∀ W, (Instr.build 42 #[(0, .int .i8 1), (2, .int .i64 5)]).run Tryz.prog W = .ok (.agg (mtX we1 none none 0 0)) W := fun W => run_build W 42 _ _ (by kernel_rfl)
  have bdp : ∀ W, (Instr.build 40 #[(0, .int .i64 1), (1, .int .i64 2), (2, .int .i64 9)]).run Tryz.prog W = .ok (.agg #[.int .i64 1, .int .i64 2, .int .i64 9]) W := fun W => run_build W 40 _ _ (by kernel_rfl)
  have bd2 : ∀ W, (Instr.build 42 #[(0, .int .i8 2), (3, .agg #[.int .i64 1, .int .i64 2, .int .i64 9])]).run Tryz.prog W = .ok (.agg (mtX we2 none none 0 0)) W := fun W => run_build W 42 _ _ (by kernel_rfl)
  have bd3 : ∀ W, (Instr.build 42 #[(0, .int .i8 3), (4, .bool true)]).run Tryz.prog W = .ok (.agg (mtX we3 none none 0 0)) W := fun W => run_build W 42 _ _ (by kernel_rfl)
  have bd4 : ∀ W, (Instr.build 42 #[(0, .int .i8 4)]).run Tryz.prog W = .ok (.agg (mtX we4 none none 0 0)) W := fun W => run_build W 42 _ _ (by kernel_rfl)
  have bs := fun W => wbs W
  obtain ⟨W1, hW1⟩ : ∃ W1, W1 = w.alloc (.cells (cellsE wL).toArray 42) := ⟨_, rfl⟩
  have B1 : Below w.heap.size w W1 := by rw [hW1]; exact bal (Below.refl _ _) _
  have k1 : Blk W1 w.heap.size 42 (cellsE wL).toArray := by rw [hW1]; exact Blk.new _ _ _
  have hr : Reads W1 W1.heap.size 17 (some ⟨w.heap.size, 0, none⟩) wL.length (cellsE wL) := ⟨by rw [length_cellsE], fun _ => ⟨_, rfl, k1.lt, fun j u hu => by
    rw [add_none, Nat.zero_add, k1.cell]
    simpa using hu⟩⟩
  have hf := mFold_any wL (some ⟨w.heap.size, 0, none⟩) 4 W1.heap.size W1 hr (Nat.le_refl _) (wL_R _ _) (by decide) (hg.up B1)
  unfold FoP at hf
  rw [wL_fold] at hf
  have FO := Lib.hid (show Calls Tryz.prog 11 #[.slice (some ⟨w.heap.size, 0, none⟩) 4 4] W1 fun e w' => ∃ a, e = .returned (.tuple #[.agg (stX (oneS 1 wc4 gr4) a), .int .i64 4, .int .i64 0]) ∧ StR w' w'.heap.size (oneS 1 wc4 gr4) a ∧ Below W1.heap.size W1 w' from hf)
  have HW1 := Lib.hid hW1
  have HB1 := Lib.hid B1
  clear hW1 B1 k1 hr hf hg
  go_enter Tryz.func10, Tryz.ntmps10
  go_wp2_with fail
  rw [← HW1.out]
  refine FO.out.mono ?_
  rintro e w2 ⟨a, rfl, r2, b2⟩
  obtain ⟨W3, st3, k3, b3, s3⟩ := bk_fresh (P := Tryz.prog) w2 34 #[.int .i64 0, .int .i8 0, .int .i64 0, .int .i64 0, .int .i64 0, .int .i64 0, .slice none 0 0, .slice none 0 0, .int .i64 0, .int .i8 0, .int .i64 0, .int .i64 0, .int .i64 0, .int .i64 0, .slice none 0 0, .slice none 0 0, .int .i64 0, .int .i8 0, .int .i64 0, .int .i64 0, .int .i64 0, .int .i64 0, .slice none 0 0, .slice none 0 0, .int .i64 0, .int .i64 0, .int .i64 0, .int .i64 0, .int .i64 0, .int .i64 0, .int .i64 0] (stX (oneS 1 wc4 gr4) a) 31 infoSta rfl (stX_size ..) (stX_one ..)
  have K3 := Lib.hid k3
  have B3 := Lib.hid (HB1.out.trans ((b2.trans (b3.mono b2.size)).mono HB1.out.size))
  have l3 := st_load k3
  have OF := Lib.hid (of_1 (oneS 1 wc4 gr4) a W3 rfl)
  clear k3 b3 s3 r2 b2 bd1 bdp bd2 bd3 bd4 bs
  go_wp2_with fail
  refine OF.out.mono ?_
  rintro e w4 ⟨rfl, b4⟩
  have k4 := K3.out.below b4 K3.out.lt
  have l4 := st_load k4
  have c0 : w4.cell? ⟨w2.heap.size, 0, none⟩ = some (.int .i64 1) := st_made k4
  have c30 : w4.cell? ⟨w2.heap.size, 25 + 1 * 3 + 2, none⟩ = some (.int .i64 9) := st_gr k4 5 (by decide)
  have c25 : w4.cell? ⟨w2.heap.size, 25, none⟩ = some (.int .i64 (-1)) := st_gr k4 0 (by decide)
  simp only [Nat.reduceMul, Nat.reduceAdd] at c30
  have PL := Lib.hid (plain_1 (oneS 1 wc4 gr4) a w4 rfl rfl)
  have B4 := Lib.hid (B3.out.trans (b4.mono B3.out.size))
  clear k4 b4 l3 st3
  go_wp2_with fail
  refine PL.out.mono ?_
  rintro e w5 ⟨rfl, b5⟩
  have B5 := Lib.hid (B4.out.trans (b5.mono B4.out.size))
  clear b5 l4 c0 c30 c25
  go_wp2_with fail
  go_ret
  exact ⟨rfl, B5.out⟩
end
end
end Go.Proofs.YtbpkckahonmpkaaGreatDoor
namespace Go.Proofs.YtbpkckahonmpkaaGreatDoor
open Go.RowKit
def grsB (s t : Sta) : Bool := ((s.gr 0 == t.gr 0) && ((s.gr 1 == t.gr 1) && (s.gr 2 == t.gr 2))) && ((s.gr 3 == t.gr 3) && ((s.gr 4 == t.gr 4) && (s.gr 5 == t.gr 5)))
def sameS (s t : Sta) : Bool := (List.range 3).all (fun k => sameB (s.tid k) (t.tid k)) && ((s.made == t.made) && grsB s t)
theorem eqR3 (d : Nat) (a0 a1 a2 b0 b1 b2 : Int) (w : World) : (Op.equalIn (d + 1 + 1) 31 (.agg #[.int .i64 a0, .int .i64 a1, .int .i64 a2]) (.agg #[.int .i64 b0, .int .i64 b1, .int .i64 b2])).run Tryz.prog w = .ok ((a0 == b0) && ((a1 == b1) && (a2 == b2))) w := by
  have u3 := Tryz.underlying3
  have a3 := Tryz.isAgg3
  have z3 := Tryz.sizeOf3
  rw [Op.equalIn]
  simp only [Sem.run_bind, run_underlying Tryz.underlying31, Result.andThen_ok]
  simp only [Std.Legacy.Range.forIn_eq_forIn_range', Std.Legacy.Range.size, Nat.sub_zero, Nat.add_sub_cancel, Nat.div_one, List.range'_succ, List.range'_zero, List.forIn_cons, List.forIn_nil]
  go_simp
  by_cases h1 : a0 = b0 <;> by_cases h2 : a1 = b1 <;> by_cases h3 : a2 = b2 <;> simp [h1, h2, h3]
theorem eqGr (s t : Sta) (w : World) : (Op.equalIn 10000 32 (.agg (grX s)) (.agg (grX t))).run Tryz.prog w = .ok (grsB s t) w := by
  have u3 := Tryz.underlying31
  have a3 := Tryz.isAgg31
  have z3 := Tryz.sizeOf31
  have e0 := fun W => eqR3 9997 (s.gr 0) (s.gr 1) (s.gr 2) (t.gr 0) (t.gr 1) (t.gr 2) W
  have e1 := fun W => eqR3 9997 (s.gr 3) (s.gr 4) (s.gr 5) (t.gr 3) (t.gr 4) (t.gr 5) W
  unfold grsB
  generalize ((s.gr 0 == t.gr 0) && ((s.gr 1 == t.gr 1) && (s.gr 2 == t.gr 2))) = u at e0 ⊢
  generalize ((s.gr 3 == t.gr 3) && ((s.gr 4 == t.gr 4) && (s.gr 5 == t.gr 5))) = v at e1 ⊢
  rw [show (10000 : Nat) = 9999 + 1 from rfl, Op.equalIn]
  simp only [Sem.run_bind, run_underlying Tryz.underlying32, Result.andThen_ok]
  simp only [Std.Legacy.Range.forIn_eq_forIn_range', Std.Legacy.Range.size, Nat.sub_zero, Nat.add_sub_cancel, Nat.div_one, List.range'_succ, List.range'_zero, List.forIn_cons, List.forIn_nil]
  unfold grX grL
  go_simp
  cases u <;> cases v <;> simp
section
attribute [-go_sem] loadCells storeVar
set_option maxRecDepth 100000 in
set_option maxHeartbeats 8000000 in
theorem rSameS_any (s t : Sta) (a c : Sad) (B1 B2 : Nat) (w : World) (h1 : StR w B1 s a) (h2 : StR w B2 t c) (hB1 : B1 ≤ w.heap.size) (hB2 : B2 ≤ w.heap.size) :
    Calls Tryz.prog 13 #[.agg (stX s a), .agg (stX t c)] w fun e w' => e = .returned (.bool (sameS s t)) ∧ Below w.heap.size w w' := by
  obtain ⟨W0, hW0⟩ : ∃ W0, W0 = (w.alloc (.cells (stX s a) 34)).alloc (.cells (stX t c) 34) := ⟨_, rfl⟩
  have s0 : W0.heap.size = w.heap.size + 1 + 1 := by rw [hW0]; simp
  have B0 : Below w.heap.size w W0 := by rw [hW0]; exact bal (bal (Below.refl _ _) _) _
  have K1 : Blk W0 w.heap.size 34 (stX s a) := by rw [hW0]; exact (Blk.new w 34 (stX s a)).alloc _
  have K2 : Blk W0 (w.heap.size + 1) 34 (stX t c) := by rw [hW0]; exact bk_new _ 34 (stX t c) (by simp)
  have HW := Lib.hid hW0
  have HB := Lib.hid B0
  have HK := Lib.hid K1
  have HK2 := Lib.hid K2
  have HBB := Lib.hid (And.intro hB1 hB2)
  have H := Lib.hid (And.intro h1 h2)
  clear hW0 s0 B0 K1 K2 h1 h2 hB1 hB2
  go_enter Tryz.func13, Tryz.ntmps13
  go_upto_region 1 with (fail)
  rw [← HW.out]
  go_wp2_with fail
  go_loopg [5] 3 (fun mm y wq => ∃ (k : Nat), k ≤ 3 ∧ y = .int .i64 k ∧ mm = 3 - k ∧ (∀ i, i < k → sameB (s.tid i) (t.tid i) = true) ∧ Below W0.heap.size W0 wq)
  case atStart => exact ⟨0, by omega, rfl, rfl, fun i hi => by omega, Below.refl _ _⟩
  case round =>
    obtain ⟨k, hk, rfl, hmm, hok, hbw⟩ := hrel
    have HMM := Lib.hid hmm
    have OK := Lib.hid hok
    have BW' := Lib.hid hbw
    have KW := Lib.hid (HK.out.below BW'.out HK.out.lt)
    have KV := Lib.hid (HK2.out.below BW'.out HK2.out.lt)
    have HBW := Lib.hid (HB.out.trans (BW'.out.mono HB.out.size))
    clear hmm hok hbw
    by_cases hlt : k < 3
    · have d3 : decide ((k : Int) < 3) = true := decide_eq_true (by omega)
      have i1 : (0 : Int) ≤ (k : Int) := by omega
      have i2 : (k : Int) < 3 := by omega
      obtain ⟨u, hu⟩ : ∃ u, sameB (s.tid k) (t.tid k) = u := ⟨_, rfl⟩
      have MY := Lib.hid (fun W (hW : Below wr.heap.size wr W) => show Calls Tryz.prog 38 #[(.agg #[.int .i8 (s.tid k).st, .int .i64 (s.tid k).pid, .int .i64 (s.tid k).ep, .int .i64 (s.tid k).tm, .int .i64 (s.tid k).th, .slice (a.A k) (s.tid k).ps.length (a.c k), .slice (a.D k) (s.tid k).qs.length (a.e k), .int .i64 (s.tid k).ag]), (.agg #[.int .i8 (t.tid k).st, .int .i64 (t.tid k).pid, .int .i64 (t.tid k).ep, .int .i64 (t.tid k).tm, .int .i64 (t.tid k).th, .slice (c.A k) (t.tid k).ps.length (c.c k), .slice (c.D k) (t.tid k).qs.length (c.e k), .int .i64 (t.tid k).ag])] W fun e w' => e = .returned (.bool u) ∧ Below W.heap.size W w' from by
        rw [← hu]
        exact rSame_any (s.tid k) (t.tid k) (a.A k) (a.D k) (a.c k) (a.e k) (c.A k) (c.D k) (c.c k) (c.e k) B1 B2 W ((H.out.1 k hlt).below ((HBW.out.trans (hW.mono HBW.out.size)).mono HBB.out.1)) ((H.out.2 k hlt).below ((HBW.out.trans (hW.mono HBW.out.size)).mono HBB.out.2)) (by have := HBB.out.1; have := HBW.out.size; have := hW.size; omega) (by have := HBB.out.2; have := HBW.out.size; have := hW.size; omega))
      have lk := fun n : BW wr.heap.size wr => st_tid (KW.out.below n.2 KW.out.lt) k hlt
      have lj := fun n : BW wr.heap.size wr => st_tid (KV.out.below n.2 KV.out.lt) k hlt
      have HU := Lib.hid hu
      clear hu
      go_wp2_with fail
      refine wp_region_bq wr.heap.size (by kernel_rfl) (by kernel_rfl) ?_
      repeat (go_big_quiet_step ((go_at_call 38; exact bw_call (Nat.le_refl _) (MY.out _ (by exact Subtype.property _)))))
      refine wpQuiet_nil ?_
      rintro _ ⟨n, rfl⟩
      have BN := Lib.hid n.2
      clear lk lj
      cases u
      · have HNO := Lib.hid (show sameS s t = false by
          cases hx : sameS s t
          · rfl
          · unfold sameS at hx
            simp only [Bool.and_eq_true, List.all_eq_true, List.mem_range] at hx
            have := hx.1 k hlt
            rw [HU.out] at this; cases this)
        go_wp2_with fail
        go_ret
        rw [HNO.out]
        exact ⟨rfl, HBW.out.trans (BN.out.mono HBW.out.size)⟩
      · go_wp2_with fail
        go_roundg (gk - 1)
        case measure => have := HMM.out; omega
        case rel =>
          refine ⟨k + 1, by omega, by go_num, by have := HMM.out; omega, fun i hi => ?_, BW'.out.trans (BN.out.mono BW'.out.size)⟩
          rcases Nat.lt_succ_iff_lt_or_eq.1 hi with h | h
          · exact OK.out i h
          · rw [h]; exact HU.out
    · obtain rfl : k = 3 := by omega
      have d3 : decide (((3 : Nat) : Int) < 3) = false := by decide
      have x0 := st_made KW.out
      have y0 := st_made KV.out
      have x2 := st_grs KW.out
      have y2 := st_grs KV.out
      have eg := fun W => eqGr s t W
      obtain ⟨u, hu⟩ : ∃ u, (s.made == t.made) = u := ⟨_, rfl⟩
      obtain ⟨v, hv⟩ : ∃ v, grsB s t = v := ⟨_, rfl⟩
      have HS := Lib.hid (show sameS s t = (u && v) by
        unfold sameS
        rw [hu, hv, List.all_eq_true.2 (fun i hi => OK.out i (List.mem_range.1 hi)), Bool.true_and])
      rw [hv] at eg
      clear hv
      cases u
      · go_wp2_with fail
        go_ret
        rw [HS.out]
        exact ⟨rfl, HBW.out⟩
      · go_wp2_with fail
        go_ret
        rw [HS.out]
        exact ⟨rfl, HBW.out⟩
end
end Go.Proofs.YtbpkckahonmpkaaGreatDoor
namespace Go.Proofs.YtbpkckahonmpkaaGreatDoor
open Go.RowKit
theorem sameB_refl (c : Co) : sameB c c = true := by unfold sameB; simp
section
attribute [-go_sem] loadCells storeVar Instr.build
end
end Go.Proofs.YtbpkckahonmpkaaGreatDoor
namespace Go.Proofs.YtbpkckahonmpkaaGreatDoor
open Go.RowKit
theorem sameS_refl (s : Sta) : sameS s s = true := by
  unfold sameS grsB
  simp [sameB_refl]
/-- A state as it is handed in: its lists, however long. -/
def StRaw (w : World) (s : Sta) (a : Sad) : Prop := ∀ k, k < 3 → Reads w w.heap.size 1 (a.A k) (s.tid k).ps.length (cellsI .i64 (s.tid k).ps) ∧ Reads w w.heap.size 3 (a.D k) (s.tid k).qs.length (cellsP (s.tid k).qs) ∧ -128 ≤ (s.tid k).st ∧ (s.tid k).st ≤ 127
end Go.Proofs.YtbpkckahonmpkaaGreatDoor
namespace Go.Proofs.YtbpkckahonmpkaaGreatDoor
open Go.RowKit
def MtRaw (w : World) (m : Mt) (A D : Option Addr) : Prop := Reads w w.heap.size 1 A m.c.ps.length (cellsI .i64 m.c.ps) ∧ Reads w w.heap.size 3 D m.c.qs.length (cellsP m.c.qs) ∧ -128 ≤ m.c.st ∧ m.c.st ≤ 127
theorem MtRaw.co {w : World} {m : Mt} {A D : Option Addr} (h : MtRaw w m A D) (hb : bigT m.c = false) : CoR w w.heap.size m.c A D := by
  unfold bigT at hb
  simp only [Bool.or_eq_false_iff, decide_eq_false_iff_not, Nat.not_lt] at hb
  exact ⟨h.1, h.2.1, by omega, by omega⟩
theorem StRaw.st {w : World} {s : Sta} {a : Sad} (h : StRaw w s a) (hb : bigS s = false) : StR w w.heap.size s a := fun k hk => by
  have := bigS_no hb k hk
  exact ⟨(h k hk).1, (h k hk).2.1, by omega, by omega⟩
section
attribute [-go_sem] loadCells storeVar
set_option maxRecDepth 100000 in
set_option maxHeartbeats 4000000 in
theorem rGreat19_any (m : Mt) (A D : Option Addr) (c e : Nat) (w : World) :
    Calls Tryz.prog 14 #[.agg (mtX m A D c e)] w fun e w' => e = .returned (.bool (bigT m.c)) ∧ Below w.heap.size w w' := by
  obtain ⟨W0, hW0⟩ : ∃ W0, W0 = w.alloc (.cells (mtX m A D c e) 42) := ⟨_, rfl⟩
  have B0 : Below w.heap.size w W0 := by rw [hW0]; exact bal (Below.refl _ _) _
  have K1 : Blk W0 w.heap.size 42 (mtX m A D c e) := by rw [hW0]; exact Blk.new w 42 _
  have HW := Lib.hid hW0
  have HB := Lib.hid B0
  have y5 := mt_cell K1 (j := 13) rfl
  have y6 := mt_cell K1 (j := 14) rfl
  obtain ⟨u, hu⟩ : ∃ u, decide ((40 : Int) < (m.c.ps.length : Int)) = u := ⟨_, rfl⟩
  obtain ⟨v, hv⟩ : ∃ v, decide ((40 : Int) < (m.c.qs.length : Int)) = v := ⟨_, rfl⟩
  have HN := Lib.hid (show bigT m.c = (u || v) by
    unfold bigT
    rw [← hu, ← hv]
    congr 1
    · exact decide_eq_decide.2 (by omega)
    · exact decide_eq_decide.2 (by omega))
  clear hW0 B0 K1
  cases u
  · cases v
    · go_enter Tryz.func14, Tryz.ntmps14
      go_upto_region 1 with (fail)
      rw [← HW.out]
      go_wp2_with fail
      go_ret
      rw [HN.out]
      exact ⟨rfl, HB.out⟩
    · go_enter Tryz.func14, Tryz.ntmps14
      go_upto_region 1 with (fail)
      rw [← HW.out]
      go_wp2_with fail
      go_ret
      rw [HN.out]
      exact ⟨rfl, HB.out⟩
  · go_enter Tryz.func14, Tryz.ntmps14
    go_upto_region 1 with (fail)
    rw [← HW.out]
    go_wp2_with fail
    go_ret
    rw [HN.out]
    exact ⟨by simp, HB.out⟩
end
end Go.Proofs.YtbpkckahonmpkaaGreatDoor
namespace Go.Proofs.YtbpkckahonmpkaaGreatDoor
open Go.RowKit
def idxP (p : Pd) : Nat := p.1.toNat * 3 + p.2.1.toNat
def waitL : List Pd → Nat → Int
  | [], _ => 0
  | y :: l, g => if idxP y = g then y.2.2 + 1 else waitL l g
/-- What the law keeps beside the state. -/
structure OfI (s : Sta) (want wait : Nat → Int) (yes : Nat → Bool) : Prop where
  want : ∀ g, g < 6 → want g = s.gr g
  wait : ∀ t, t < 3 → ∀ g, g < 6 → wait (t * 6 + g) = waitL (s.tid t).qs g
  yes : ∀ t, t < 3 → ((s.tid t).st = 3 → yes t = true) ∧ ((s.tid t).st = 4 → yes t = false)
def upd {α : Type} (f : Nat → α) (i : Nat) (v : α) : Nat → α := fun j => if j = i then v else f j
theorem OfI.start : OfI sta0 (fun _ => -1) (fun _ => 0) (fun _ => false) := ⟨fun _ _ => rfl, fun _ _ _ _ => rfl, fun _ _ => ⟨fun h => absurd h (show ¬ (0 : Int) = 3 by decide), fun _ => rfl⟩⟩
theorem OfI.made {s : Sta} {want wait : Nat → Int} {yes : Nat → Bool} (h : OfI s want wait yes) (n : Int) : OfI { s with made := n } want wait yes := ⟨h.want, h.wait, h.yes⟩
theorem OfI.pend {s : Sta} {want wait : Nat → Int} {yes : Nat → Bool} (h : OfI s want wait yes) (p : Pd) : OfI (s.pend p) (upd want (idxP p) p.2.2) wait yes := by
  refine ⟨fun g hg => ?_, h.wait, h.yes⟩
  show (if g = idxP p then p.2.2 else want g) = if g = idxP p then p.2.2 else s.gr g
  by_cases e : g = idxP p
  · rw [if_pos e, if_pos e]
  · rw [if_neg e, if_neg e]; exact h.want g hg
theorem OfI.put {s : Sta} {want wait wait' : Nat → Int} {yes yes' : Nat → Bool} (h : OfI s want wait yes) {t : Nat} {d : Co} (hw : ∀ u, u < 3 → ∀ g, g < 6 → wait' (u * 6 + g) = if u = t then waitL d.qs g else wait (u * 6 + g)) (hy : ∀ u, u < 3 → ¬ u = t → yes' u = yes u) (hd : (d.st = 3 → yes' t = true) ∧ (d.st = 4 → yes' t = false)) :
    OfI (s.put t d) want wait' yes' := by
  refine ⟨h.want, fun u hu g hg => ?_, fun u hu => ?_⟩
  · rw [hw u hu g hg]
    by_cases e : u = t
    · rw [if_pos e, show (s.put t d).tid u = d from if_pos e]
    · rw [if_neg e, show (s.put t d).tid u = s.tid u from if_neg e]; exact h.wait u hu g hg
  · by_cases e : u = t
    · rw [show (s.put t d).tid u = d from if_pos e, e]; exact hd
    · rw [show (s.put t d).tid u = s.tid u from if_neg e, hy u hu e]; exact h.yes u hu
/-- The law, kind by kind: the state behind an entry that is done, what the law keeps. -/
theorem next_may {s : Sta} {m : Mt} (h : nextE s m = 0) : mayS s = true ∧ mayM m = true := by
  constructor
  · cases hx : mayS s
    · unfold nextE at h; rw [if_pos (.inl hx)] at h; cases h
    · rfl
  · cases hx : mayM m
    · unfold nextE at h; rw [if_pos (.inr hx)] at h; cases h
    · rfl
end Go.Proofs.YtbpkckahonmpkaaGreatDoor
namespace Go.Proofs.YtbpkckahonmpkaaGreatDoor
open Go.RowKit
def bigL (l : List MtM) : Bool := decide (200 < l.length) || l.any fun y => bigT y.x.c
theorem bigL_no {l : List MtM} (h : bigL l = false) : l.length ≤ 200 ∧ ∀ y ∈ l, bigT y.x.c = false := by
  unfold bigL at h
  simp only [Bool.or_eq_false_iff, decide_eq_false_iff_not, Nat.not_lt, List.any_eq_false] at h
  exact ⟨h.1, fun y hy => by simpa using h.2 y hy⟩
section
attribute [-go_sem] loadCells storeVar
set_option maxRecDepth 100000 in
set_option maxHeartbeats 4000000 in
theorem greatL_any (l : List MtM) (A : Option Addr) (c : Nat) (w : World) (hr : Reads w w.heap.size 17 A l.length (cellsE l)) :
    Calls Tryz.prog 9 #[.slice A l.length c] w fun e w' => e = .returned (.bool (bigL l)) ∧ Below w.heap.size w w' := by
  have HR := Lib.hid hr
  clear hr
  go_enter Tryz.func9, Tryz.ntmps9
  go_wp2_with fail
  go_loopg [3] 201 (fun mm y wq => ∃ (k : Nat), k ≤ l.length ∧ k ≤ 201 ∧ y = .int .i64 k ∧ mm = 201 - k ∧ (∀ j z, j < k → l[j]? = some z → bigT z.x.c = false) ∧ Below w.heap.size w wq)
  case atStart => exact ⟨0, Nat.zero_le _, by omega, rfl, rfl, fun j z hj => by omega, Below.refl _ _⟩
  case round =>
    obtain ⟨k, hk, hk2, rfl, hmm, hok, hbw⟩ := hrel
    have HMM := Lib.hid hmm
    have OK := Lib.hid hok
    have BW' := Lib.hid hbw
    clear hmm hok hbw
    by_cases hlt : k < l.length
    · have dlt : decide ((k : Int) < ((l.length : Nat) : Int)) = true := decide_eq_true (by omega)
      by_cases h200 : k ≤ 200
      · have d200 : decide ((k : Int) ≤ 200) = true := decide_eq_true (by omega)
        have j1 : (0 : Int) ≤ (k : Int) := by omega
        have j2 : (k : Int) < ((l.length : Nat) : Int) := by omega
        obtain ⟨y, hy⟩ : ∃ y, l[k]? = some y := ⟨_, List.getElem?_eq_getElem hlt⟩
        obtain ⟨b1, o1, rfl, hb1, hc1⟩ := (HR.out.below BW'.out).plainE (by omega)
        have lk := hc1 k y hy
        have GA := Lib.hid (rGreat19_any y.x y.A y.D y.c y.e wr)
        have HY := Lib.hid hy
        obtain ⟨u, hu⟩ : ∃ u, bigT y.x.c = u := ⟨_, rfl⟩
        rw [hu] at GA
        have HU := Lib.hid hu
        clear hu hy hc1 hb1
        go_wp2_with fail
        refine GA.out.mono ?_
        rintro e w3 ⟨rfl, b3⟩
        have B3 := Lib.hid (BW'.out.trans (b3.mono BW'.out.size))
        clear b3 lk
        cases u
        · go_wp2_with fail
          go_roundg (gk - 1)
          case measure => have := HMM.out; omega
          case rel =>
            refine ⟨k + 1, by omega, by omega, by go_num, by have := HMM.out; omega, fun j z hj hz => ?_, B3.out⟩
            rcases Nat.lt_succ_iff_lt_or_eq.1 hj with h | h
            · exact OK.out j z h hz
            · rw [h, HY.out] at hz
              injection hz with hz
              rw [← hz, HU.out]
        · have HL := Lib.hid (show bigL l = true by
            unfold bigL
            rw [List.any_eq_true.2 ⟨y, List.mem_of_getElem? HY.out, HU.out⟩, Bool.or_true])
          go_wp2_with fail
          go_ret
          rw [HL.out]
          exact ⟨rfl, B3.out⟩
      · have d200 : decide ((k : Int) ≤ 200) = false := decide_eq_false (by omega)
        have dn : decide ((200 : Int) < ((l.length : Nat) : Int)) = true := decide_eq_true (by omega)
        have HL := Lib.hid (show bigL l = true by
          unfold bigL
          rw [decide_eq_true (show 200 < l.length by omega), Bool.true_or])
        go_wp2_with fail
        go_ret
        rw [HL.out]
        exact ⟨rfl, BW'.out⟩
    · have dlt : decide ((k : Int) < ((l.length : Nat) : Int)) = false := decide_eq_false (by omega)
      obtain ⟨v, hv⟩ : ∃ v, decide ((200 : Int) < ((l.length : Nat) : Int)) = v := ⟨_, rfl⟩
      have HL := Lib.hid (show bigL l = v by
        unfold bigL
        have hkl : k = l.length := by omega
        have h0 : l.any (fun y => bigT y.x.c) = false := by
          rw [List.any_eq_false]
          intro y hy
          obtain ⟨j, hj⟩ := List.getElem?_of_mem hy
          rw [OK.out j y (by rw [hkl]; exact (List.getElem?_eq_some_iff.1 hj).1) hj]
          decide
        rw [h0, Bool.or_false, ← hv]
        exact decide_eq_decide.2 (by omega))
      go_wp2_with fail
      go_ret
      rw [HL.out]
      exact ⟨rfl, BW'.out⟩
end
end Go.Proofs.YtbpkckahonmpkaaGreatDoor
namespace Go.Proofs.YtbpkckahonmpkaaGreatDoor
open Go.RowKit
theorem next_mayS {s : Sta} {m : Mt} (h : nextE s m = 0) : mayS (nextS s m) = true := by
  have hn := next_may h
  unfold nextS
  rw [if_pos h]
  unfold nextE at h
  rw [if_neg (by rw [hn.1, hn.2]; simp)] at h
  by_cases hx : toE s m = 0
  · rw [if_neg (by rw [hx]; simp)] at h
    by_cases hy : mayS (toS s m) = true
    · exact hy
    · rw [if_neg hy] at h; cases h
  · rw [if_pos hx] at h; exact absurd h hx
section
attribute [-go_sem] loadCells storeVar
set_option maxRecDepth 100000 in
theorem rfold_ret (X : Array Value) (k n : Int) (tmps : Array Value) (b : Nat) (W : World) (h2 : tmps[2]?.getD undef = .pointer (some ⟨b, 0, none⟩)) (h3 : tmps[3]?.getD undef = .int .i64 k) (h4 : tmps[4]?.getD undef = .int .i64 n) (hK : Blk W b 34 X) (hX : X.size = 31) :
    (results Tryz.f12 tmps).run Tryz.prog W = .ok (.tuple #[.agg X, .int .i64 k, .int .i64 n]) W := by
  have LC := bk_load (P := Tryz.prog) 31 hK hX
  clear hK
  simp [results, Tryz.results12, go_sem, h2, h3, h4, LC]
set_option maxRecDepth 100000 in
set_option maxHeartbeats 8000000 in
theorem rFold_any (l : List MtM) (A : Option Addr) (c B : Nat) (w : World) (hr : Reads w B 17 A l.length (cellsE l)) (hB : B ≤ w.heap.size) (hl : MtsR w B l) (hn : l.length ≤ 1000000) (hst : ∀ y ∈ l, -128 ≤ y.x.c.st ∧ y.x.c.st ≤ 127) :
    Calls Tryz.prog 12 #[.slice A l.length c] w (FoP sta0 (l.map (·.x)) w) := by
  obtain ⟨W0, hW0⟩ : ∃ W0, W0 = w.alloc (.cells #[.int .i64 0, .int .i8 0, .int .i64 0, .int .i64 0, .int .i64 0, .int .i64 0, .slice none 0 0, .slice none 0 0, .int .i64 0, .int .i8 0, .int .i64 0, .int .i64 0, .int .i64 0, .int .i64 0, .slice none 0 0, .slice none 0 0, .int .i64 0, .int .i8 0, .int .i64 0, .int .i64 0, .int .i64 0, .int .i64 0, .slice none 0 0, .slice none 0 0, .int .i64 0, .int .i64 0, .int .i64 0, .int .i64 0, .int .i64 0, .int .i64 0, .int .i64 0] 34) := ⟨_, rfl⟩
  have s0 : W0.heap.size = w.heap.size + 1 := by rw [hW0]; simp
  have B0 : Below w.heap.size w W0 := by rw [hW0]; exact bal (Below.refl _ _) _
  have K0 : Blk W0 w.heap.size 34 #[.int .i64 0, .int .i8 0, .int .i64 0, .int .i64 0, .int .i64 0, .int .i64 0, .slice none 0 0, .slice none 0 0, .int .i64 0, .int .i8 0, .int .i64 0, .int .i64 0, .int .i64 0, .int .i64 0, .slice none 0 0, .slice none 0 0, .int .i64 0, .int .i8 0, .int .i64 0, .int .i64 0, .int .i64 0, .int .i64 0, .slice none 0 0, .slice none 0 0, .int .i64 0, .int .i64 0, .int .i64 0, .int .i64 0, .int .i64 0, .int .i64 0, .int .i64 0] := by rw [hW0]; exact Blk.new _ _ _
  have HW := Lib.hid hW0
  have HS := Lib.hid s0
  have HB := Lib.hid B0
  have HK := Lib.hid K0
  have HR := Lib.hid hr
  have HL := Lib.hid hl
  have HT := Lib.hid hst
  have HN := Lib.hid (And.intro hn hB)
  clear hW0 s0 B0 K0 hr hl hn hB hst
  go_enter Tryz.func12, Tryz.ntmps12
  go_upto_region 1 with (fail)
  rw [← HW.out]
  go_wp2_with fail
  refine (rFirst_any W0).mono ?_
  rintro e w1 ⟨rfl, b1⟩
  obtain ⟨W2, st2, k2, b2, s2⟩ := bk_fresh (P := Tryz.prog) w1 34 #[.int .i64 0, .int .i8 0, .int .i64 0, .int .i64 0, .int .i64 0, .int .i64 0, .slice none 0 0, .slice none 0 0, .int .i64 0, .int .i8 0, .int .i64 0, .int .i64 0, .int .i64 0, .int .i64 0, .slice none 0 0, .slice none 0 0, .int .i64 0, .int .i8 0, .int .i64 0, .int .i64 0, .int .i64 0, .int .i64 0, .slice none 0 0, .slice none 0 0, .int .i64 0, .int .i64 0, .int .i64 0, .int .i64 0, .int .i64 0, .int .i64 0, .int .i64 0] (stX sta0 sad0) 31 infoSta rfl (stX_size ..) (stX_one ..)
  have K2 := Lib.hid k2
  have KR2 := Lib.hid ((HK.out.below b1 HK.out.lt).below b2 (by have := HK.out.lt; have := b1.size; omega))
  have B2 := Lib.hid (HB.out.trans ((b1.trans (b2.mono b1.size)).mono HB.out.size))
  have Z2 := Lib.hid (show w.heap.size < w1.heap.size by have := HS.out; have := b1.size; omega)
  clear k2 b1 b2 s2
  go_wp2_with fail
  clear st2
  go_loopg [6] l.length (fun mm y wq => ∃ (k : Nat) (a : Sad), k ≤ l.length ∧ y = .int .i64 k ∧ mm = l.length - k ∧ Goes sta0 (l.map (·.x)) k ∧ Blk wq w1.heap.size 34 (stX (stA sta0 ((l.map (·.x)).take k)) a) ∧ StB (stA sta0 ((l.map (·.x)).take k)) ∧ (∀ j, j < 3 → CoR wq wq.heap.size ((stA sta0 ((l.map (·.x)).take k)).tid j) (a.A j) (a.D j) ∧ (OffB w1.heap.size ((stA sta0 ((l.map (·.x)).take k)).tid j).ps.length (a.A j) ∧ OffB w1.heap.size ((stA sta0 ((l.map (·.x)).take k)).tid j).qs.length (a.D j)) ∧ OffB w.heap.size ((stA sta0 ((l.map (·.x)).take k)).tid j).ps.length (a.A j) ∧ OffB w.heap.size ((stA sta0 ((l.map (·.x)).take k)).tid j).qs.length (a.D j)) ∧ Blk wq w.heap.size 34 #[.int .i64 0, .int .i8 0, .int .i64 0, .int .i64 0, .int .i64 0, .int .i64 0, .slice none 0 0, .slice none 0 0, .int .i64 0, .int .i8 0, .int .i64 0, .int .i64 0, .int .i64 0, .int .i64 0, .slice none 0 0, .slice none 0 0, .int .i64 0, .int .i8 0, .int .i64 0, .int .i64 0, .int .i64 0, .int .i64 0, .slice none 0 0, .slice none 0 0, .int .i64 0, .int .i64 0, .int .i64 0, .int .i64 0, .int .i64 0, .int .i64 0, .int .i64 0] ∧ Below w.heap.size w wq)
  case atStart => exact ⟨0, sad0, Nat.zero_le _, rfl, rfl, fun j x hj => by omega, K2.out, fun k _ => (by decide : (-128 : Int) ≤ 0 ∧ (0 : Int) ≤ 127), fun j hj => ⟨co0_R _ _, ⟨fun h => absurd h (Nat.lt_irrefl 0), fun h => absurd h (Nat.lt_irrefl 0)⟩, fun h => absurd h (Nat.lt_irrefl 0), fun h => absurd h (Nat.lt_irrefl 0)⟩, KR2.out, B2.out⟩
  case round =>
    obtain ⟨k, a, hk, rfl, hmm, hgo, hks, hsb, hli, hkr, hbw⟩ := hrel
    have HMM := Lib.hid hmm
    have GO := Lib.hid hgo
    have KS := Lib.hid hks
    have SB := Lib.hid hsb
    have LI := Lib.hid hli
    have KR := Lib.hid hkr
    have BW' := Lib.hid hbw
    clear hmm hgo hks hsb hli hkr hbw
    obtain ⟨s, hs⟩ : ∃ s, stA sta0 ((l.map (·.x)).take k) = s := ⟨_, rfl⟩
    rw [hs] at KS LI SB
    by_cases hlt : k < l.length
    · have dlt : decide ((k : Int) < ((l.length : Nat) : Int)) = true := decide_eq_true (by omega)
      have j1 : (0 : Int) ≤ (k : Int) := by omega
      have j2 : (k : Int) < ((l.length : Nat) : Int) := by omega
      obtain ⟨y, hy⟩ : ∃ y, l[k]? = some y := ⟨_, List.getElem?_eq_getElem hlt⟩
      have hym : (l.map (·.x))[k]? = some y.x := by rw [List.getElem?_map, hy]; rfl
      have hmem := List.mem_of_getElem? hy
      obtain ⟨b1, o1, rfl, hb1, hc1⟩ := HR.out.plainE (by omega)
      have LE := Lib.hid (fun W (hb : Below wr.heap.size wr W) => show (loadCells ⟨b1, o1 + k * 17, none⟩ 17).run Tryz.prog W = .ok (mtX y.x y.A y.D y.c y.e) W by
        obtain ⟨b2, o2, he, _, hc2⟩ := (HR.out.below ((BW'.out.trans (hb.mono BW'.out.size)).mono HN.out.2)).plainE (by omega)
        injection he with he
        injection he with e1 e2
        subst e1
        subst e2
        exact hc2 k y hy)
      have YC := Lib.hid (HL.out y hmem)
      have YT := Lib.hid (HT.out y hmem)
      have NX := Lib.hid (fun W (hb : Below wr.heap.size wr W) => rNext_any s a y.x y.A y.D y.c y.e W (fun j hj => (LI.out j hj).1.up hb) ((YC.out.below ((BW'.out.trans (hb.mono BW'.out.size)).mono HN.out.2)).more (Nat.le_trans HN.out.2 (BW'.out.trans (hb.mono BW'.out.size)).size)) SB.out YT.out.1 YT.out.2)
      have SS := Lib.hid (fun W (hb : Below wr.heap.size wr W) => And.intro hb (And.intro (st_load (KS.out.below hb KS.out.lt)) (LE.out W hb)))
      have HY := Lib.hid hym
      have HSS := Lib.hid hs
      have hle := HN.out.1
      have YO := Lib.hid (fun b (hb : w.heap.size ≤ b) => And.intro (YC.out.1.offB (Nat.le_trans HN.out.2 hb)) (YC.out.2.1.offB (Nat.le_trans HN.out.2 hb)))
      clear hc1 hb1 hy hym hs hmem
      obtain ⟨n, hn⟩ : ∃ n, nextE s y.x = n := ⟨_, rfl⟩
      rw [hn] at NX
      have HNE := Lib.hid hn
      clear hn
      go_wp2_with fail
      go_region_held3 (fun W => Below wr.heap.size wr W ∧ (loadCells ⟨w1.heap.size, 0, none⟩ 31).run Tryz.prog W = .ok (stX s a) W ∧ (loadCells ⟨b1, o1 + k * 17, none⟩ 17).run Tryz.prog W = .ok (mtX y.x y.A y.D y.c y.e) W)
        (first | exact SS.out _ (Below.refl _ _).drew | exact SS.out _ hb8 | exact SS.out _ (hb7.alloc hb7.size _) | exact SS.out _ hb7 | exact SS.out _ (bal (Below.refl _ _).drew _))
        ((go_at_call 37
          refine (NX.out _ (by go_split_ands; assumption)).mono ?_
          rintro e w7 ⟨a7, rfl, r7, b7, off7⟩
          first
            | (have kz : Blk w7 wr.heap.size 34 #[.int .i64 0, .int .i8 0, .int .i64 0, .int .i64 0, .int .i64 0, .int .i64 0, .slice none 0 0, .slice none 0 0, .int .i64 0, .int .i8 0, .int .i64 0, .int .i64 0, .int .i64 0, .int .i64 0, .slice none 0 0, .slice none 0 0, .int .i64 0, .int .i8 0, .int .i64 0, .int .i64 0, .int .i64 0, .int .i64 0, .slice none 0 0, .slice none 0 0, .int .i64 0, .int .i64 0, .int .i64 0, .int .i64 0, .int .i64 0, .int .i64 0, .int .i64 0] := (bk_new wr.drew 34 #[.int .i64 0, .int .i8 0, .int .i64 0, .int .i64 0, .int .i64 0, .int .i64 0, .slice none 0 0, .slice none 0 0, .int .i64 0, .int .i8 0, .int .i64 0, .int .i64 0, .int .i64 0, .int .i64 0, .slice none 0 0, .slice none 0 0, .int .i64 0, .int .i8 0, .int .i64 0, .int .i64 0, .int .i64 0, .int .i64 0, .slice none 0 0, .slice none 0 0, .int .i64 0, .int .i64 0, .int .i64 0, .int .i64 0, .int .i64 0, .int .i64 0, .int .i64 0] rfl).below b7 (by simp)
               have hb7 : Below wr.heap.size wr w7 := Below.trans (bal (Below.refl _ _).drew (.cells #[.int .i64 0, .int .i8 0, .int .i64 0, .int .i64 0, .int .i64 0, .int .i64 0, .slice none 0 0, .slice none 0 0, .int .i64 0, .int .i8 0, .int .i64 0, .int .i64 0, .int .i64 0, .int .i64 0, .slice none 0 0, .slice none 0 0, .int .i64 0, .int .i8 0, .int .i64 0, .int .i64 0, .int .i64 0, .int .i64 0, .slice none 0 0, .slice none 0 0, .int .i64 0, .int .i64 0, .int .i64 0, .int .i64 0, .int .i64 0, .int .i64 0, .int .i64 0] 34)) (b7.mono (by simp))
               obtain ⟨W8, st8, k8, fb8, fh8, fs8⟩ := bk_store (P := Tryz.prog) (ty := 34) (cs := stX (nextS s y.x) a7) 31 kz infoSta rfl (stX_size ..) (stX_one ..)
               have hb8 : Below wr.heap.size wr W8 := fb8 _ _ (Nat.le_refl _) hb7
               have O8 := Lib.hid (fun b (hb : b < wr.heap.size) (h1 : ∀ j, j < 3 → OffB b (s.tid j).ps.length (a.A j) ∧ OffB b (s.tid j).qs.length (a.D j)) (h2 : w.heap.size ≤ b) => off7 b (by simp; omega) h1 (YO.out b h2).1 (YO.out b h2).2)
               have R8 := Lib.hid (show StR W8 W8.heap.size (nextS s y.x) a7 from fun j hj => by
                 have ho := off7 wr.heap.size (by simp) (fun i hi => ⟨(LI.out i hi).1.1.offB (Nat.le_refl _), (LI.out i hi).1.2.1.offB (Nat.le_refl _)⟩) (YO.out _ BW'.out.size).1 (YO.out _ BW'.out.size).2
                 exact (r7 j hj).keepB (ho j hj).1 (ho j hj).2 (But.one fh8 fs8).keep (But.one fh8 fs8).size)
               have K8 := Lib.hid k8
               have HB8 := Lib.hid hb8
               clear kz k8 fb8 fh8 fs8 r7 b7 off7)
            | (have hb7 : Below wr.heap.size wr w7 := ⟨b7.os, b7.tape, b7.output, b7.size, b7.block⟩
               obtain ⟨W8, st8, k8, b8, s8⟩ := bk_fresh (P := Tryz.prog) w7 34 #[.int .i64 0, .int .i8 0, .int .i64 0, .int .i64 0, .int .i64 0, .int .i64 0, .slice none 0 0, .slice none 0 0, .int .i64 0, .int .i8 0, .int .i64 0, .int .i64 0, .int .i64 0, .int .i64 0, .slice none 0 0, .slice none 0 0, .int .i64 0, .int .i8 0, .int .i64 0, .int .i64 0, .int .i64 0, .int .i64 0, .slice none 0 0, .slice none 0 0, .int .i64 0, .int .i64 0, .int .i64 0, .int .i64 0, .int .i64 0, .int .i64 0, .int .i64 0] (stX (nextS s y.x) a7) 31 infoSta rfl (stX_size ..) (stX_one ..)
               have hb8 : Below wr.heap.size wr W8 := hb7.trans (b8.mono hb7.size)
               have O8 := Lib.hid (fun b (hb : b < wr.heap.size) (h1 : ∀ j, j < 3 → OffB b (s.tid j).ps.length (a.A j) ∧ OffB b (s.tid j).qs.length (a.D j)) (h2 : w.heap.size ≤ b) => off7 b hb h1 (YO.out b h2).1 (YO.out b h2).2)
               have R8 := Lib.hid (show StR W8 W8.heap.size (nextS s y.x) a7 from fun j hj => (r7 j hj).up b8)
               have K8 := Lib.hid k8
               have HB8 := Lib.hid hb8
               clear k8 b8 s8 r7 b7 off7)))
      all_goals
        have KS8 := Lib.hid (KS.out.below HB8.out KS.out.lt)
        have KR8 := Lib.hid (KR.out.below HB8.out KR.out.lt)
        have B8 := Lib.hid (BW'.out.trans (HB8.out.mono BW'.out.size))
        have ls8 := st_load KS8.out
        have ln8 := st_load K8.out
        clear hb7 hb8 st8
        by_cases hz : n = 0
        · subst hz
          obtain ⟨W9, st9, k9, fb9, fh9, fs9⟩ := bk_store (P := Tryz.prog) (ty := 34) (cs := stX (nextS s y.x) a7) 31 KS8.out infoSta (stX_size ..) (stX_size ..) (stX_one ..)
          have HTK := Lib.hid (show stA sta0 ((l.map (·.x)).take (k + 1)) = nextS s y.x by rw [List.take_add_one, HY.out]; simp only [Option.toList_some]; rw [stA_snoc, HSS.out])
          have K9 := Lib.hid k9
          have KR9 := Lib.hid (KR8.out.but (by have := Z2.out; omega) (But.one fh9 fs9))
          have B9 := Lib.hid (fb9 w.heap.size w (by have := Z2.out; omega) B8.out)
          have FH := Lib.hid (But.one fh9 fs9)
          clear k9 fb9 fh9 fs9
          go_wp2_with fail
          go_roundg (gk - 1)
          case measure => have := HMM.out; omega
          case rel =>
            refine ⟨k + 1, a7, by omega, by go_num, by have := HMM.out; omega, fun j x hj hx => ?_, ?_, ?_, fun j hj => ?_, KR9.out, B9.out⟩
            · rcases Nat.lt_succ_iff_lt_or_eq.1 hj with h | h
              · exact GO.out j x h hx
              · subst h
                rw [HY.out] at hx
                injection hx with hx
                rw [HSS.out, ← hx]
                exact HNE.out
            · rw [HTK.out]; exact K9.out
            · rw [HTK.out]
              intro j hj
              have hm := (mayS_iff _).1 (next_mayS HNE.out)
              exact may_stR ((okT_iff _ j).1 (hm.2.2.1 j hj)).1
            · rw [HTK.out]
              have o1 := O8.out w1.heap.size KS.out.lt (fun i hi => (LI.out i hi).2.1) (Nat.le_of_lt Z2.out) j hj
              have o2 := O8.out w.heap.size KR.out.lt (fun i hi => (LI.out i hi).2.2) (Nat.le_refl _) j hj
              exact ⟨(R8.out j hj).keepB o1.1 o1.2 FH.out.keep FH.out.size, o1, o2⟩
        · have dn : (n == 0) = false := eqb_false hz
          have dn2 : (n != 0) = true := by simp [hz]
          have HFD := Lib.hid (foldM_at (l.map (·.x)) sta0 k 0 y.x GO.out HY.out (by rw [HSS.out, HNE.out]; exact hz))
          obtain ⟨W9, st9, k9, fb9, fh9, fs9⟩ := bk_store (P := Tryz.prog) (ty := 34) (cs := stX s a) 31 KR8.out infoSta rfl (stX_size ..) (stX_one ..)
          have K9 := Lib.hid k9
          have B9 := Lib.hid (fb9 w.heap.size w (Nat.le_refl _) B8.out)
          have L9 := Lib.hid (show StR W9 W9.heap.size s a from fun j hj => ((LI.out j hj).1.up HB8.out).keepB (LI.out j hj).2.2.1 (LI.out j hj).2.2.2 (But.one fh9 fs9).keep (But.one fh9 fs9).size)
          clear k9 fb9 fh9 fs9 hz
          go_wp2_with fail
          refine bodyPost_ret (v := .tuple #[.agg (stX s a), .int .i64 k, .int .i64 n]) (rfold_ret _ _ _ _ w.heap.size _ rfl rfl rfl K9.out (stX_size ..)) rfl ?_
          unfold FoP
          rw [HFD.out, HSS.out, HNE.out]
          exact ⟨a, by simp, L9.out, B9.out⟩
    · have hkn : k = l.length := by omega
      have dlt : decide ((k : Int) < ((l.length : Nat) : Int)) = false := decide_eq_false (by omega)
      have HFD := Lib.hid (show foldM sta0 (l.map (·.x)) 0 = (s, l.length, 0) by
        have h1 : Goes sta0 (l.map (·.x)) (l.map (·.x)).length := by rw [List.length_map, ← hkn]; exact GO.out
        rw [foldM_all _ _ _ h1, ← hs, hkn, List.take_of_length_le (by simp)]
        simp)
      have lo := st_load KS.out
      obtain ⟨W6, st6, k6, fb6, fh6, fs6⟩ := bk_store (P := Tryz.prog) (ty := 34) (cs := stX s a) 31 KR.out infoSta rfl (stX_size ..) (stX_one ..)
      have K6 := Lib.hid k6
      have B6 := Lib.hid (fb6 w.heap.size w (Nat.le_refl _) BW'.out)
      have L6 := Lib.hid (show StR W6 W6.heap.size s a from fun j hj => (LI.out j hj).1.keepB (LI.out j hj).2.2.1 (LI.out j hj).2.2.2 (But.one fh6 fs6).keep (But.one fh6 fs6).size)
      clear k6 fb6 fh6 fs6 hs hkn
      go_wp2_with fail
      refine bodyPost_ret (v := .tuple #[.agg (stX s a), .int .i64 l.length, .int .i64 0]) (rfold_ret _ _ _ _ w.heap.size _ rfl rfl rfl K6.out (stX_size ..)) rfl ?_
      unfold FoP
      rw [HFD.out]
      exact ⟨a, rfl, L6.out, B6.out⟩
set_option maxRecDepth 100000 in
set_option maxHeartbeats 8000000 in
theorem mfolds_walk (l : List MtM) (A : Option Addr) (c : Nat) (w : World) (hg : HasET w) (hr : Reads w w.heap.size 17 A l.length (cellsE l)) (hm : ∀ y ∈ l, MtRaw w y.x y.A y.D) :
    Calls Tryz.prog 3 #[.slice A l.length c] w fun e w' => e = .returned (.bool true) ∧ Below w.heap.size w w' := by
  have GL := Lib.hid (greatL_any l A c w hr)
  have HR := Lib.hid hr
  have HM := Lib.hid hm
  have HG := Lib.hid hg
  clear hr hm hg
  obtain ⟨u, hu⟩ : ∃ u, bigL l = u := ⟨_, rfl⟩
  rw [hu] at GL
  go_enter Tryz.func3, Tryz.ntmps3
  go_wp2_with fail
  refine GL.out.mono ?_
  rintro e w1 ⟨rfl, b1⟩
  have B1 := Lib.hid b1
  clear b1
  cases u
  rotate_left
  · clear hu
    have WK := Lib.hid (wakes20 w1 (HG.out.up B1.out))
    go_wp2_with fail
    refine WK.out.mono ?_
    rintro e w99 ⟨rfl, b99⟩
    have B99 := Lib.hid (B1.out.trans (b99.mono B1.out.size))
    clear b99
    go_wp2_with fail
    go_ret
    exact ⟨rfl, B99.out⟩
  have HN := Lib.hid (bigL_no hu)
  have ML := Lib.hid (show MtsR w w.heap.size l from fun y hy => (HM.out y hy).co (HN.out.2 y hy))
  have F1 := Lib.hid (mFold_any l A c w.heap.size w1 (HR.out.below B1.out) B1.out.size (ML.out.below B1.out) (by have := HN.out.1; omega) (HG.out.up B1.out))
  clear hu
  obtain ⟨t, ht⟩ : ∃ t, foldM sta0 (l.map (·.x)) 0 = t := ⟨_, rfl⟩
  unfold FoP at F1
  rw [ht] at F1
  go_wp2_with fail
  refine F1.out.mono ?_
  rintro e w2 ⟨a2, rfl, r2, b2⟩
  obtain ⟨W3, st3, k3, b3, s3⟩ := bk_fresh (P := Tryz.prog) w2 34 #[.int .i64 0, .int .i8 0, .int .i64 0, .int .i64 0, .int .i64 0, .int .i64 0, .slice none 0 0, .slice none 0 0, .int .i64 0, .int .i8 0, .int .i64 0, .int .i64 0, .int .i64 0, .int .i64 0, .slice none 0 0, .slice none 0 0, .int .i64 0, .int .i8 0, .int .i64 0, .int .i64 0, .int .i64 0, .int .i64 0, .slice none 0 0, .slice none 0 0, .int .i64 0, .int .i64 0, .int .i64 0, .int .i64 0, .int .i64 0, .int .i64 0, .int .i64 0] (stX t.1 a2) 31 infoSta rfl (stX_size ..) (stX_one ..)
  have bb := b2.trans (b3.mono b2.size)
  have B3 := Lib.hid (B1.out.trans (bb.mono B1.out.size))
  have K3 := Lib.hid k3
  have R3 := Lib.hid (show StR W3 W3.heap.size t.1 a2 from r2.up b3)
  have F2 := Lib.hid (rFold_any l A c w.heap.size W3 (HR.out.below B3.out) B3.out.size (ML.out.below B3.out) (by have := HN.out.1; omega) (fun y hy => (HM.out y hy).2.2))
  unfold FoP at F2
  rw [ht] at F2
  clear k3 b2 b3 s3 bb r2
  go_wp2_with fail
  refine F2.out.mono ?_
  rintro e w4 ⟨a4, rfl, r4, b4⟩
  obtain ⟨W5, st5, k5, b5, s5⟩ := bk_fresh (P := Tryz.prog) w4 34 #[.int .i64 0, .int .i8 0, .int .i64 0, .int .i64 0, .int .i64 0, .int .i64 0, .slice none 0 0, .slice none 0 0, .int .i64 0, .int .i8 0, .int .i64 0, .int .i64 0, .int .i64 0, .int .i64 0, .slice none 0 0, .slice none 0 0, .int .i64 0, .int .i8 0, .int .i64 0, .int .i64 0, .int .i64 0, .int .i64 0, .slice none 0 0, .slice none 0 0, .int .i64 0, .int .i64 0, .int .i64 0, .int .i64 0, .int .i64 0, .int .i64 0, .int .i64 0] (stX t.1 a4) 31 infoSta rfl (stX_size ..) (stX_one ..)
  have bb := b4.trans (b5.mono b4.size)
  have B5 := Lib.hid (B3.out.trans (bb.mono B3.out.size))
  have l7 := st_load (K3.out.below bb K3.out.lt)
  have l8 := st_load k5
  have SM := Lib.hid (rSameS_any t.1 t.1 a2 a4 W5.heap.size W5.heap.size W5 (R3.out.up bb) (r4.up b5) (Nat.le_refl _) (Nat.le_refl _))
  rw [sameS_refl] at SM
  have dn : (t.2.2 == t.2.2) = true := by simp
  have dk : (((t.2.1 : Nat) : Int) == ((t.2.1 : Nat) : Int)) = true := by simp
  clear r4 b4 k5 b5 s5 bb st3 ht
  go_wp2_with fail
  refine SM.out.mono ?_
  rintro e w6 ⟨rfl, b6⟩
  have B6 := Lib.hid (B5.out.trans (b6.mono B5.out.size))
  have WK := Lib.hid (wakes20 w6 (HG.out.up B6.out))
  clear b6 l7 l8 st5
  go_wp2_with fail
  refine WK.out.mono ?_
  rintro e w99 ⟨rfl, b99⟩
  have B99 := Lib.hid (B6.out.trans (b99.mono B6.out.size))
  clear b99
  go_wp2_with fail
  go_ret
  exact ⟨rfl, B99.out⟩
end
end Go.Proofs.YtbpkckahonmpkaaGreatDoor
namespace Go.Proofs.YtbpkckahonmpkaaGreatDoor
open Go.Joins Go.ChangeShapes Go.WideShapes Go.RowKit Go.Deep

section
variable {H : Type} {enc : TypeId × Value → H} {P : Program} {w : World} {base : Nat} {spare : Nat → Bool} {held : Bool}
theorem open_slice_fields {t e : TypeId} {fs : Array Field} {fuel : Nat} {cs : List Value} {x : DataW H × List MemPlace} (ht : P.underlying t = some (.slice e)) (he : P.underlying e = some (.struct fs))
    (hone : oneCellFields P fs = true) (hC : P.cellsOf e = fs.size) (h : DataW.trod enc P w base spare held fuel t cs = some x) :
    (cs = [.slice none 0 0] ∧ x = (.nil, [])) ∨
    ∃ (a : Addr) (len cap m : Nat) (D : Nat → DataW H) (Pl : Nat → List MemPlace), cs = [.slice (some a) len cap] ∧ base ≤ a.block ∧ len ≤ cap ∧ cap ≤ maxLen ∧ m = (if spare a.block then cap else len) ∧
      x = (.slice ((List.range len).map D) ((List.range (m - len)).map fun j => D (len + j)), MemPlace.row a (m * fs.size) ++ (List.range m).flatMap Pl) ∧
      ∀ i, i < m → ∃ (ys : List (DataW H × List MemPlace)) (n : Nat), D i = .agg (ys.map (·.1)) ∧ Pl i = ys.flatMap (·.2) ∧ ys.length = fs.size ∧
        ∀ (j : Nat) (f : Field), fs[j]? = some f → ∃ (v : Value) (y : DataW H × List MemPlace), w.cell? (a.add (i * fs.size + j)) = some v ∧ ys[j]? = some y ∧ DataW.trod enc P w base spare held n f.type [v] = some y := by
  rcases open_slice ht h with h0 | ⟨a, len, cap, m, n, D, Pl, hcs, hb, hl, hm, hmm, hx, hi⟩
  · exact .inl h0
  · refine .inr ⟨a, len, cap, m, D, Pl, hcs, hb, hl, hm, hmm, by rw [hC] at hx; exact hx, fun i him => ?_⟩
    obtain ⟨cs', hc, ht'⟩ := hi i him
    rw [hC] at hc
    obtain ⟨ys, n', hn', hy, hlen, hyl, hf⟩ := DataW.trod_struct he ht'
    obtain ⟨_, hcl, hat⟩ := World.cells?_some hc
    simp only [Prod.mk.injEq] at hy
    refine ⟨ys, n', hy.1, hy.2, hyl, fun j f hj => ?_⟩
    obtain ⟨ho, hk⟩ := hone_of hone j f hj
    have hjl : j < fs.size := (Array.getElem?_eq_some_iff.1 hj).1
    have hcell := hat j hjl
    have hv : cs'[j]? = some (cs'[j]'(by omega)) := List.getElem?_eq_getElem (by omega)
    have h1 := hf j f hj
    rw [ho, hk] at h1
    have hone' : (cs'.drop j).take 1 = [cs'[j]'(by omega)] := by
      rw [List.drop_eq_getElem_cons (by omega)]
      rfl
    rw [hone'] at h1
    have hys : ys[j]? = some (ys[j]'(by omega)) := List.getElem?_eq_getElem (by omega)
    refine ⟨_, _, ?_, hys, h1.trans hys⟩
    rw [← Go.Deep.add_add, hcell, hv]
end

section
variable {H : Type} {enc : TypeId × Value → H} {W : World}
theorem cell_block {a : Addr} {k : Nat} {v : Value} (h : W.cell? (a.add k) = some v) : a.block < W.heap.size := by
  have := block_lt_of_cell h
  rwa [block_of_add] at this
theorem field_ints {fuel : Nat} {v : Value} {x : DataW H × List MemPlace} (h : DataW.trod enc Tryz.prog W 0 (fun _ => true) true fuel 26 [v] = some x) :
    ∃ (A : Option Addr) (c : Nat) (l : List Int), v = .slice A l.length c ∧ l.length ≤ c ∧ Reads W W.heap.size 1 A l.length (cellsI .i64 l) := by
  rcases open_ints Tryz.underlying26 Tryz.underlying3 (by kernel_rfl) h with ⟨hcs, _⟩ | ⟨a, len, cap, zs, hcs, _, hl, hm, hz, hx, hcell, hwz⟩
  · simp at hcs
    subst hcs
    exact ⟨none, 0, [], rfl, Nat.le_refl _, Reads.none_⟩
  · simp at hcs
    subst hcs
    simp only [if_true] at hz
    have hlen : (zs.take len).length = len := by rw [List.length_take]; omega
    refine ⟨some a, cap, zs.take len, by rw [hlen], by omega, by rw [length_cellsI]; omega, fun hn => ⟨a, rfl, cell_block (hcell 0 (by omega)), fun j u hu => ?_⟩⟩
    rw [getElem?_cellsI, Option.map_eq_some_iff] at hu
    obtain ⟨s, hs, rfl⟩ := hu
    have hj : j < len := by
      have := (List.getElem?_eq_some_iff.1 hs).1
      omega
    rw [List.getElem?_take_of_lt hj] at hs
    rw [hcell j (by omega)]
    simp [hs]
theorem cellsP_get : ∀ (l : List Pd) (j : Nat) (u : Value), (cellsP l)[j]? = some u → ∃ i k p, j = i * 3 + k ∧ k < 3 ∧ l[i]? = some p ∧ u = (if k = 0 then .int .i64 p.1 else if k = 1 then .int .i64 p.2.1 else .int .i64 p.2.2) := by
  intro l j u hu
  have hj : j < l.length * 3 := by
    have := (List.getElem?_eq_some_iff.1 hu).1
    rwa [length_cellsP] at this
  have hi : j / 3 < l.length := by omega
  obtain ⟨p, hp⟩ : ∃ p, l[j / 3]? = some p := ⟨_, List.getElem?_eq_getElem hi⟩
  obtain ⟨h0, h1, h2⟩ := cellsP_at l (j / 3) p hp
  refine ⟨j / 3, j % 3, p, by omega, by omega, hp, ?_⟩
  have hk : j % 3 = 0 ∨ j % 3 = 1 ∨ j % 3 = 2 := by omega
  rcases hk with hk | hk | hk
  · rw [show j = j / 3 * 3 by omega, h0] at hu
    rw [if_pos hk]
    exact (Option.some.inj hu).symm
  · rw [show j = j / 3 * 3 + 1 by omega, h1] at hu
    rw [if_neg (by omega), if_pos hk]
    exact (Option.some.inj hu).symm
  · rw [show j = j / 3 * 3 + 2 by omega, h2] at hu
    rw [if_neg (by omega), if_neg (by omega)]
    exact (Option.some.inj hu).symm
theorem field_pends {fuel : Nat} {v : Value} {x : DataW H × List MemPlace} (h : DataW.trod enc Tryz.prog W 0 (fun _ => true) true fuel 27 [v] = some x) :
    ∃ (A : Option Addr) (c : Nat) (l : List Pd), v = .slice A l.length c ∧ l.length ≤ c ∧ Reads W W.heap.size 3 A l.length (cellsP l) := by
  rcases open_slice_fields Tryz.underlying27 Tryz.underlying40 (by kernel_rfl) (by kernel_rfl) h with ⟨hcs, _⟩ | ⟨a, len, cap, m, D, Pl, hcs, _, hl, hm, hmm, hx, hi⟩
  · simp at hcs
    subst hcs
    exact ⟨none, 0, [], rfl, Nat.le_refl _, Reads.none_⟩
  · simp at hcs
    subst hcs
    simp only [if_true] at hmm
    subst hmm
    have hp : ∀ i, ∃ p : Pd, i < len → W.cell? (a.add (i * 3 + 0)) = some (.int .i64 p.1) ∧ W.cell? (a.add (i * 3 + 1)) = some (.int .i64 p.2.1) ∧ W.cell? (a.add (i * 3 + 2)) = some (.int .i64 p.2.2) := by
      intro i
      by_cases hlt : i < len
      · obtain ⟨ys, n, _, _, _, hf⟩ := hi i (by omega)
        obtain ⟨v0, y0, hc0, _, t0⟩ := hf 0 _ rfl
        obtain ⟨v1, y1, hc1, _, t1⟩ := hf 1 _ rfl
        obtain ⟨v2, y2, hc2, _, t2⟩ := hf 2 _ rfl
        obtain ⟨z0, e0, _, _⟩ := DataW.trod_int Tryz.underlying3 t0
        obtain ⟨z1, e1, _, _⟩ := DataW.trod_int Tryz.underlying3 t1
        obtain ⟨z2, e2, _, _⟩ := DataW.trod_int Tryz.underlying3 t2
        simp at e0 e1 e2
        subst e0; subst e1; subst e2
        exact ⟨(z0, z1, z2), fun _ => ⟨hc0, hc1, hc2⟩⟩
      · exact ⟨(0, 0, 0), fun h => absurd h hlt⟩
    refine ⟨some a, m, (List.range len).map fun i => Classical.choose (hp i), by simp, by simpa using hl, by rw [length_cellsP], fun hn => ⟨a, rfl, ?_, fun j u hu => ?_⟩⟩
    · simp at hn
      exact cell_block (Classical.choose_spec (hp 0) hn).1
    · obtain ⟨i, k, p, rfl, hk, hpi, rfl⟩ := cellsP_get _ j u hu
      rw [List.getElem?_map, Option.map_eq_some_iff] at hpi
      obtain ⟨i', hi', rfl⟩ := hpi
      have hlt : i < len := by
        have := (List.getElem?_eq_some_iff.1 hi').1
        simpa using this
      rw [List.getElem?_range hlt] at hi'
      obtain rfl : i = i' := by simpa using hi'
      obtain ⟨q0, q1, q2⟩ := Classical.choose_spec (hp i) hlt
      have hk3 : k = 0 ∨ k = 1 ∨ k = 2 := by omega
      rcases hk3 with rfl | rfl | rfl
      · exact q0
      · exact q1
      · exact q2

end
end Go.Proofs.YtbpkckahonmpkaaGreatDoor
