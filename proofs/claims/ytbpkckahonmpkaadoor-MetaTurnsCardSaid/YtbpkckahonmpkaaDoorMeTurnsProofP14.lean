/-
  The statement MetaTurns: its walk.
  Layer 20: what the document says of four entries (wakes); which states and entries are too great.
  Layer 20: whether two states are the same, by the document.
  Layer 21: what the document says of a transaction that is 3 ticks old.
  Whole states as they are handed in.
  The statement MetaNext: its walk.
  Layer 20: whether two states are the same, by the program; two entries turned about, in plain words; the statement MetaTurns: its walk.
-/
import Derived.Test.YtbpkckahonmpkaaDoorMeTurnsProofP13
import Derived.Great.BuildSlice
import Derived.Laws.StructEq
set_option linter.unusedVariables false
set_option linter.unusedSimpArgs false
namespace Go.Proofs.YtbpkckahonmpkaaDoor
open Go.RowKit
def oneS (made : Int) (c : Co) (g : Nat → Int) : Sta := ⟨made, fun k => if k = 0 then c else Co0, g⟩
theorem oneS_put (made : Int) (c d : Co) (g : Nat → Int) : (oneS made c g).put 0 d = oneS made d g := by
  unfold oneS Sta.put
  congr 1
  funext k
  show (if k = 0 then d else if k = 0 then c else Co0) = if k = 0 then d else Co0
  by_cases h : k = 0
  · rw [if_pos h, if_pos h]
  · rw [if_neg h, if_neg h, if_neg h]
theorem co0_may : mayB Co0 = true := by unfold mayB; simp [Co0, sameB]
theorem oneS_may {made : Int} {c : Co} {g : Nat → Int} (hc : mayB c = true) (hp : c.pid ≤ made) (h0 : 0 ≤ made) (h8 : made ≤ 8) (hg : ∀ j, -1 ≤ g j ∧ g j ≤ 1048576) : mayS (oneS made c g) = true := by
  refine (mayS_iff _).2 ⟨h0, h8, fun k hk => (okT_iff _ k).2 ?_, fun j _ => ?_⟩
  · by_cases h : k = 0
    · subst h
      exact ⟨hc, hp, fun j hj => absurd hj (Nat.not_lt_zero j)⟩
    · have e : (oneS made c g).tid k = Co0 := if_neg h
      rw [e]
      exact ⟨co0_may, h0, fun _ _ => .inl rfl⟩
  · show (decide (-1 ≤ g j) && decide (g j ≤ 1048576)) = true
    rw [decide_eq_true (hg j).1, decide_eq_true (hg j).2]; rfl
def we1 : Mt := ⟨1, 0, 5, Pd0, false, 0, Co0, 0⟩
def we2 : Mt := ⟨2, 0, 0, (1, 2, 9), false, 0, Co0, 0⟩
def we3 : Mt := ⟨3, 0, 0, Pd0, true, 0, Co0, 0⟩
def we4 : Mt := ⟨4, 0, 0, Pd0, false, 0, Co0, 0⟩
theorem we1_may : mayM we1 = true := by unfold mayM fitM bareM sameM sameB; simp [we1, Co0, Pd0]
theorem we2_may : mayM we2 = true := by unfold mayM fitM bareM sameM sameB; simp [we2, Co0, Pd0, pendB, partB]
theorem we3_may : mayM we3 = true := by unfold mayM fitM bareM sameM sameB; simp [we3, Co0, Pd0]
theorem we4_may : mayM we4 = true := by unfold mayM fitM bareM sameM sameB; simp [we4, Co0, Pd0]
def wc1 : Co := ⟨1, 1, 0, 5, 0, [], [], 0⟩
def wc2 : Co := ⟨2, 1, 0, 5, 0, [], [(1, 2, 9)], 0⟩
def wc3 : Co := ⟨3, 1, 0, 5, 0, [], [(1, 2, 9)], 0⟩
def wc4 : Co := ⟨5, 1, 0, 5, 0, [], [], 0⟩
theorem wc1_may : mayB wc1 = true := may_new 1 1 0 5 (.inl rfl) ⟨by decide, by decide⟩ ⟨by decide, by decide⟩ ⟨by decide, by decide⟩
theorem wc2_set : setE wc1 (1, 2, 9) = 0 ∧ setC wc1 (1, 2, 9) = wc2 := by
  have h : setE wc1 (1, 2, 9) = 0 := by
    unfold setE chkE
    rw [if_neg (by rw [wc1_may]; decide), if_neg (by decide)]
  exact ⟨h, (set_ok h).2⟩
theorem wc2_may : mayB wc2 = true := by rw [← wc2_set.2]; exact (set_ok wc2_set.1).1
theorem wc3_prep : prepE wc2 true 0 = 0 ∧ prepC wc2 true 0 = wc3 := by
  have h : prepE wc2 true 0 = 0 := by
    unfold prepE
    rw [if_neg (by simp), if_neg (by unfold chkE; rw [if_neg (by rw [wc2_may]; decide), if_neg (by decide)]; simp), if_neg (by simp)]
  refine ⟨h, ?_⟩
  unfold prepC
  rw [if_pos h]
  rfl
theorem wc3_may : mayB wc3 = true := by
  rw [← wc3_prep.2]
  exact (mv_fact (x := ⟨3, 0, 0, Pd0, true, []⟩) wc2_may (by unfold mvE; simpa using wc3_prep.1)).may
theorem wc4_comp : chkE wc3 3 true = 0 ∧ compC wc3 = wc4 := by
  have h : chkE wc3 3 true = 0 := by
    unfold chkE
    rw [if_neg (by rw [wc3_may]; decide), if_neg (by decide)]
  refine ⟨h, ?_⟩
  unfold compC
  rw [if_neg (by rw [h]; simp), if_neg (by decide), if_neg (by decide)]
  rfl
theorem wc4_may : mayB wc4 = true := may_new 5 1 0 5 (.inr (.inl rfl)) ⟨by decide, by decide⟩ ⟨by decide, by decide⟩ ⟨by decide, by decide⟩
def gr0 : Nat → Int := fun _ => -1
theorem gr0_ok : ∀ j, -1 ≤ gr0 j ∧ gr0 j ≤ 1048576 := fun _ => ⟨by unfold gr0; decide, by unfold gr0; decide⟩
theorem sta0_one : sta0 = oneS 0 Co0 gr0 := by
  unfold sta0 oneS gr0
  congr 1
  funext k
  split <;> rfl
theorem ws1 : nextE sta0 we1 = 0 ∧ nextS sta0 we1 = oneS 1 wc1 gr0 := by
  rw [sta0_one]
  have hs : mayS (oneS 0 Co0 gr0) = true := oneS_may co0_may (by decide) (by decide) (by decide) gr0_ok
  have h := next_f hs we1_may rfl (show ((oneS 0 Co0 gr0).tid 0).st = 0 from rfl)
  rw [if_neg (by decide), if_neg (by decide)] at h
  refine ⟨h.1, ?_⟩
  rw [h.2, (init_fresh (c := (oneS 0 Co0 gr0).tid we1.tid.toNat) co0_may rfl (n := (oneS 0 Co0 gr0).made + 1) (tm := we1.tm) (by decide) (by decide) (by decide) (by decide)).2]
  have := oneS_put 0 Co0 wc1 gr0
  show ({ (oneS 0 Co0 gr0).put 0 wc1 with made := 1 } : Sta) = _
  rw [this]; rfl
theorem ws_move {c d : Co} {m : Mt} (hc : mayB c = true) (hd : mayB d = true) (hm : mayM m = true) (ht : m.tid = 0) (hp : c.pid = 1) (hp2 : d.pid = 1) (g g2 : Nat → Int) (hg : ∀ j, -1 ≤ g j ∧ g j ≤ 1048576) (hg2 : ∀ j, -1 ≤ g2 j ∧ g2 j ≤ 1048576)
    (hk : ¬ (m.kd = 0 ∨ m.kd = 5 ∨ m.kd = 7)) (hf : ¬ (m.kd = 1 ∧ c.st = 0)) (he : moveE c m 1 = 0) (hdd : moveC c m 1 = d) (hpn : (oneS 1 c g).pends (if m.kd = 4 ∧ c.st = 3 then c.qs else []) = oneS 1 c g2) :
    nextE (oneS 1 c g) m = 0 ∧ nextS (oneS 1 c g) m = oneS 1 d g2 := by
  have hs : mayS (oneS 1 c g) = true := oneS_may hc (by omega) (by decide) (by decide) hg
  have htn : m.tid.toNat = 0 := by rw [ht]; rfl
  have h := next_m hs hm hk (by rw [htn]; exact hf)
  rw [htn] at h
  have e0 : (oneS 1 c g).tid 0 = c := rfl
  have em : (oneS 1 c g).made = 1 := rfl
  rw [e0, em, he, hdd, hpn, oneS_put] at h
  have hn : nextE (oneS 1 c g) m = 0 := by
    rw [h.1, h.2, if_neg (by simp), if_pos (oneS_may hd (by omega) (by decide) (by decide) hg2)]
  exact ⟨hn, by unfold nextS; rw [if_pos hn, h.2]⟩
theorem ws2 : nextE (oneS 1 wc1 gr0) we2 = 0 ∧ nextS (oneS 1 wc1 gr0) we2 = oneS 1 wc2 gr0 :=
  ws_move wc1_may wc2_may we2_may rfl rfl rfl gr0 gr0 gr0_ok gr0_ok (by decide) (by decide) wc2_set.1 wc2_set.2 rfl
theorem ws3 : nextE (oneS 1 wc2 gr0) we3 = 0 ∧ nextS (oneS 1 wc2 gr0) we3 = oneS 1 wc3 gr0 :=
  ws_move wc2_may wc3_may we3_may rfl rfl rfl gr0 gr0 gr0_ok gr0_ok (by decide) (by decide) wc3_prep.1 wc3_prep.2 rfl
def gr4 : Nat → Int := fun j => if j = 5 then 9 else gr0 j
theorem gr4_ok : ∀ j, -1 ≤ gr4 j ∧ gr4 j ≤ 1048576 := fun j => by
  unfold gr4
  split
  · exact ⟨by decide, by decide⟩
  · exact gr0_ok j
theorem ws4 : nextE (oneS 1 wc3 gr0) we4 = 0 ∧ nextS (oneS 1 wc3 gr0) we4 = oneS 1 wc4 gr4 :=
  ws_move wc3_may wc4_may we4_may rfl rfl rfl gr0 gr4 gr0_ok gr4_ok (by decide) (by decide) wc4_comp.1 wc4_comp.2 rfl
def wL : List MtM := [⟨we1, none, none, 0, 0⟩, ⟨we2, none, none, 0, 0⟩, ⟨we3, none, none, 0, 0⟩, ⟨we4, none, none, 0, 0⟩]
theorem wL_fold : foldM sta0 (wL.map (·.x)) 0 = (oneS 1 wc4 gr4, 4, 0) := by
  show foldM sta0 [we1, we2, we3, we4] 0 = _
  unfold foldM
  rw [if_pos ws1.1, ws1.2]
  unfold foldM
  rw [if_pos ws2.1, ws2.2]
  unfold foldM
  rw [if_pos ws3.1, ws3.2]
  unfold foldM
  rw [if_pos ws4.1, ws4.2]
  rfl
theorem wL_R (w : World) (B : Nat) : MtsR w B wL := by
  intro y hy
  unfold wL at hy
  simp only [List.mem_cons, List.not_mem_nil, or_false] at hy
  rcases hy with rfl | rfl | rfl | rfl <;> exact co0_R w B
section
attribute [-go_sem] loadCells storeVar
set_option maxRecDepth 100000 in
set_option maxHeartbeats 4000000 in
theorem of_1 (s : Sta) (a : Sad) (w : World) (hp : (s.tid 0).pid = 1) :
    Calls Tryd.prog 24 #[.agg (stX s a), .int .i64 1] w fun e w' => e = .returned (.tuple #[.int .i64 0, .bool true]) ∧ Below w.heap.size w w' := by
  obtain ⟨W0, hW0⟩ : ∃ W0, W0 = w.alloc (.cells (stX s a) 31) := ⟨_, rfl⟩
  have B0 : Below w.heap.size w W0 := by rw [hW0]; exact bal (Below.refl _ _) _
  have K1 : Blk W0 w.heap.size 31 (stX s a) := by rw [hW0]; exact Blk.new w 31 (stX s a)
  have HW := Lib.hid hW0
  have HB := Lib.hid B0
  have x1 := st_tids K1
  have ix := st_index0 s a W0
  obtain ⟨W2, st2, k2, b2, s2⟩ := bk_fresh (P := Tryd.prog) W0 26 #[.int .i8 0, .int .i64 0, .int .i64 0, .int .i64 0, .int .i64 0, .slice none 0 0, .slice none 0 0, .int .i64 0] #[.int .i8 (s.tid 0).st, .int .i64 (s.tid 0).pid, .int .i64 (s.tid 0).ep, .int .i64 (s.tid 0).tm, .int .i64 (s.tid 0).th, .slice (a.A 0) (s.tid 0).ps.length (a.c 0), .slice (a.D 0) (s.tid 0).qs.length (a.e 0), .int .i64 (s.tid 0).ag] 8 infoCoS rfl rfl (by simp [Value.oneCell'])
  have y1 : W2.cell? ⟨W0.heap.size, 1, none⟩ = some (.int .i64 1) := by rw [← hp]; exact k2.cell 1
  have B2 := Lib.hid (B0.trans (b2.mono B0.size))
  clear hW0 B0 K1 k2 b2 s2 hp
  go_enter Tryd.func24, Tryd.ntmps24
  go_upto_region 1 with (fail)
  rw [← HW.out]
  go_wp2_with fail
  go_loopg [10] 1 (fun mm y wq => y = .int .i64 0 ∧ mm = 1 ∧ wq = W0)
  case atStart => exact ⟨rfl, rfl, rfl⟩
  obtain ⟨rfl, hmm, rfl⟩ := hrel
  clear hmm
  go_wp2_with fail
  go_ret2
  exact ⟨rfl, B2.out⟩
set_option maxRecDepth 100000 in
set_option maxHeartbeats 4000000 in
theorem plain_1 (s : Sta) (a : Sad) (w : World) (hp : (s.tid 0).pid = 1) (hm : s.made = 1) :
    Calls Tryd.prog 25 #[.agg (stX s a), .int .i64 1] w fun e w' => e = .returned (.bool false) ∧ Below w.heap.size w w' := by
  obtain ⟨W0, hW0⟩ : ∃ W0, W0 = w.alloc (.cells (stX s a) 31) := ⟨_, rfl⟩
  have B0 : Below w.heap.size w W0 := by rw [hW0]; exact bal (Below.refl _ _) _
  have K1 : Blk W0 w.heap.size 31 (stX s a) := by rw [hW0]; exact Blk.new w 31 (stX s a)
  have HW := Lib.hid hW0
  have HB := Lib.hid B0
  have HK := Lib.hid K1
  have HM := Lib.hid hm
  have l1 := st_load K1
  have OF := Lib.hid (of_1 s a W0 hp)
  clear hW0 B0 K1 hp hm
  go_enter Tryd.func25, Tryd.ntmps25
  go_upto_region 1 with (fail)
  rw [← HW.out]
  go_wp2_with fail
  refine OF.out.mono ?_
  rintro e w1 ⟨rfl, b1⟩
  have xm : w1.cell? ⟨w.heap.size, 0, none⟩ = some (.int .i64 1) := by rw [← HM.out]; exact st_made (HK.out.below b1 HK.out.lt)
  have B1 := Lib.hid (HB.out.trans (b1.mono HB.out.size))
  clear b1 l1
  go_wp2_with fail
  go_ret
  exact ⟨rfl, B1.out⟩
section
attribute [-go_sem] Instr.build Instr.buildSlice
theorem wbs (W : World) : (Instr.buildSlice 44 4 #[(0, .agg (mtX we1 none none 0 0)), (1, .agg (mtX we2 none none 0 0)), (2, .agg (mtX we3 none none 0 0)), (3, .agg (mtX we4 none none 0 0))]).run Tryd.prog W = .ok (.slice (some ⟨W.heap.size, 0, none⟩) 4 4) (W.alloc (.cells (cellsE wL).toArray 35)) := by kernel_rfl
set_option maxRecDepth 100000 in
set_option maxHeartbeats 8000000 in
theorem wakes20 (w : World) (hg : HasET w) : Calls Tryd.prog 9 #[] w fun e w' => e = .returned (.bool true) ∧ Below w.heap.size w w' := by
  have bd1 : ∀ W, (Instr.build 35 #[(0, .int .i8 1), (2, .int .i64 5)]).run Tryd.prog W = .ok (.agg (mtX we1 none none 0 0)) W := fun W => run_build W 35 _ _ (by kernel_rfl)
  have bdp : ∀ W, (Instr.build 33 #[(0, .int .i64 1), (1, .int .i64 2), (2, .int .i64 9)]).run Tryd.prog W = .ok (.agg #[.int .i64 1, .int .i64 2, .int .i64 9]) W := fun W => run_build W 33 _ _ (by kernel_rfl)
  have bd2 : ∀ W, (Instr.build 35 #[(0, .int .i8 2), (3, .agg #[.int .i64 1, .int .i64 2, .int .i64 9])]).run Tryd.prog W = .ok (.agg (mtX we2 none none 0 0)) W := fun W => run_build W 35 _ _ (by kernel_rfl)
  have bd3 : ∀ W, (Instr.build 35 #[(0, .int .i8 3), (4, .bool true)]).run Tryd.prog W = .ok (.agg (mtX we3 none none 0 0)) W := fun W => run_build W 35 _ _ (by kernel_rfl)
  have bd4 : ∀ W, (Instr.build 35 #[(0, .int .i8 4)]).run Tryd.prog W = .ok (.agg (mtX we4 none none 0 0)) W := fun W => run_build W 35 _ _ (by kernel_rfl)
  have bs := fun W => wbs W
  obtain ⟨W1, hW1⟩ : ∃ W1, W1 = w.alloc (.cells (cellsE wL).toArray 35) := ⟨_, rfl⟩
  have B1 : Below w.heap.size w W1 := by rw [hW1]; exact bal (Below.refl _ _) _
  have k1 : Blk W1 w.heap.size 35 (cellsE wL).toArray := by rw [hW1]; exact Blk.new _ _ _
  have hr : Reads W1 W1.heap.size 17 (some ⟨w.heap.size, 0, none⟩) wL.length (cellsE wL) := ⟨by rw [length_cellsE], fun _ => ⟨_, rfl, k1.lt, fun j u hu => by
    rw [add_none, Nat.zero_add, k1.cell]
    simpa using hu⟩⟩
  have hf := mFold_any wL (some ⟨w.heap.size, 0, none⟩) 4 W1.heap.size W1 hr (Nat.le_refl _) (wL_R _ _) (by decide) (hg.up B1)
  unfold FoP at hf
  rw [wL_fold] at hf
  have FO := Lib.hid (show Calls Tryd.prog 20 #[.slice (some ⟨w.heap.size, 0, none⟩) 4 4] W1 fun e w' => ∃ a, e = .returned (.tuple #[.agg (stX (oneS 1 wc4 gr4) a), .int .i64 4, .int .i64 0]) ∧ StR w' w'.heap.size (oneS 1 wc4 gr4) a ∧ Below W1.heap.size W1 w' from hf)
  have HW1 := Lib.hid hW1
  have HB1 := Lib.hid B1
  clear hW1 B1 k1 hr hf hg
  go_enter Tryd.func9, Tryd.ntmps9
  go_wp2_with fail
  rw [← HW1.out]
  refine FO.out.mono ?_
  rintro e w2 ⟨a, rfl, r2, b2⟩
  obtain ⟨W3, st3, k3, b3, s3⟩ := bk_fresh (P := Tryd.prog) w2 31 #[.int .i64 0, .int .i8 0, .int .i64 0, .int .i64 0, .int .i64 0, .int .i64 0, .slice none 0 0, .slice none 0 0, .int .i64 0, .int .i8 0, .int .i64 0, .int .i64 0, .int .i64 0, .int .i64 0, .slice none 0 0, .slice none 0 0, .int .i64 0, .int .i8 0, .int .i64 0, .int .i64 0, .int .i64 0, .int .i64 0, .slice none 0 0, .slice none 0 0, .int .i64 0, .int .i64 0, .int .i64 0, .int .i64 0, .int .i64 0, .int .i64 0, .int .i64 0] (stX (oneS 1 wc4 gr4) a) 31 infoSta rfl (stX_size ..) (stX_one ..)
  have K3 := Lib.hid k3
  have B3 := Lib.hid (HB1.out.trans ((b2.trans (b3.mono b2.size)).mono HB1.out.size))
  have l3 := st_load k3
  have OF := Lib.hid (of_1 (oneS 1 wc4 gr4) a W3 rfl)
  clear k3 b3 s3 r2 b2 bd1 bdp bd2 bd3 bd4 bs
  go_wp2_with fail
  refine OF.out.mono ?_
  rintro e w4 ⟨rfl, b4⟩
  have k4 := K3.out.below b4 K3.out.lt
  have l4 := st_load k4
  have c0 : w4.cell? ⟨w2.heap.size, 0, none⟩ = some (.int .i64 1) := st_made k4
  have c30 : w4.cell? ⟨w2.heap.size, 25 + 1 * 3 + 2, none⟩ = some (.int .i64 9) := st_gr k4 5 (by decide)
  have c25 : w4.cell? ⟨w2.heap.size, 25, none⟩ = some (.int .i64 (-1)) := st_gr k4 0 (by decide)
  simp only [Nat.reduceMul, Nat.reduceAdd] at c30
  have PL := Lib.hid (plain_1 (oneS 1 wc4 gr4) a w4 rfl rfl)
  have B4 := Lib.hid (B3.out.trans (b4.mono B3.out.size))
  clear k4 b4 l3 st3
  go_wp2_with fail
  refine PL.out.mono ?_
  rintro e w5 ⟨rfl, b5⟩
  have B5 := Lib.hid (B4.out.trans (b5.mono B4.out.size))
  clear b5 l4 c0 c30 c25
  go_wp2_with fail
  go_ret
  exact ⟨rfl, B5.out⟩
end
end
end Go.Proofs.YtbpkckahonmpkaaDoor
namespace Go.Proofs.YtbpkckahonmpkaaDoor
open Go.RowKit
def grsB (s t : Sta) : Bool := ((s.gr 0 == t.gr 0) && ((s.gr 1 == t.gr 1) && (s.gr 2 == t.gr 2))) && ((s.gr 3 == t.gr 3) && ((s.gr 4 == t.gr 4) && (s.gr 5 == t.gr 5)))
def sameS (s t : Sta) : Bool := (List.range 3).all (fun k => sameB (s.tid k) (t.tid k)) && ((s.made == t.made) && grsB s t)
theorem eqR3 (d : Nat) (a0 a1 a2 b0 b1 b2 : Int) (w : World) : (Op.equalIn (d + 1 + 1) 28 (.agg #[.int .i64 a0, .int .i64 a1, .int .i64 a2]) (.agg #[.int .i64 b0, .int .i64 b1, .int .i64 b2])).run Tryd.prog w = .ok ((a0 == b0) && ((a1 == b1) && (a2 == b2))) w := by
  have u3 := Tryd.underlying3
  have a3 := Tryd.isAgg3
  have z3 := Tryd.sizeOf3
  rw [Op.equalIn]
  simp only [Sem.run_bind, run_underlying Tryd.underlying28, Result.andThen_ok]
  simp only [Std.Legacy.Range.forIn_eq_forIn_range', Std.Legacy.Range.size, Nat.sub_zero, Nat.add_sub_cancel, Nat.div_one, List.range'_succ, List.range'_zero, List.forIn_cons, List.forIn_nil]
  go_simp
  by_cases h1 : a0 = b0 <;> by_cases h2 : a1 = b1 <;> by_cases h3 : a2 = b2 <;> simp [h1, h2, h3]
theorem eqGr (s t : Sta) (w : World) : (Op.equalIn 10000 29 (.agg (grX s)) (.agg (grX t))).run Tryd.prog w = .ok (grsB s t) w := by
  have u3 := Tryd.underlying28
  have a3 := Tryd.isAgg28
  have z3 := Tryd.sizeOf28
  have e0 := fun W => eqR3 9997 (s.gr 0) (s.gr 1) (s.gr 2) (t.gr 0) (t.gr 1) (t.gr 2) W
  have e1 := fun W => eqR3 9997 (s.gr 3) (s.gr 4) (s.gr 5) (t.gr 3) (t.gr 4) (t.gr 5) W
  unfold grsB
  generalize ((s.gr 0 == t.gr 0) && ((s.gr 1 == t.gr 1) && (s.gr 2 == t.gr 2))) = u at e0 ⊢
  generalize ((s.gr 3 == t.gr 3) && ((s.gr 4 == t.gr 4) && (s.gr 5 == t.gr 5))) = v at e1 ⊢
  rw [show (10000 : Nat) = 9999 + 1 from rfl, Op.equalIn]
  simp only [Sem.run_bind, run_underlying Tryd.underlying29, Result.andThen_ok]
  simp only [Std.Legacy.Range.forIn_eq_forIn_range', Std.Legacy.Range.size, Nat.sub_zero, Nat.add_sub_cancel, Nat.div_one, List.range'_succ, List.range'_zero, List.forIn_cons, List.forIn_nil]
  unfold grX grL
  go_simp
  cases u <;> cases v <;> simp
section
attribute [-go_sem] loadCells storeVar
end
end Go.Proofs.YtbpkckahonmpkaaDoor
namespace Go.Proofs.YtbpkckahonmpkaaDoor
open Go.RowKit
theorem sameB_refl (c : Co) : sameB c c = true := by unfold sameB; simp
theorem sta_ext {s t : Sta} (h1 : s.made = t.made) (h2 : ∀ k, s.tid k = t.tid k) (h3 : ∀ g, s.gr g = t.gr g) : s = t := by
  cases s; cases t
  simp only [Sta.mk.injEq]
  exact ⟨h1, funext h2, funext h3⟩
section
attribute [-go_sem] loadCells storeVar Instr.build
end
end Go.Proofs.YtbpkckahonmpkaaDoor
namespace Go.Proofs.YtbpkckahonmpkaaDoor
open Go.RowKit
theorem sameS_refl (s : Sta) : sameS s s = true := by
  unfold sameS grsB
  simp [sameB_refl]
/-- A state as it is handed in: its lists, however long. -/
def StRaw (w : World) (s : Sta) (a : Sad) : Prop := ∀ k, k < 3 → Reads w w.heap.size 1 (a.A k) (s.tid k).ps.length (cellsI .i64 (s.tid k).ps) ∧ Reads w w.heap.size 3 (a.D k) (s.tid k).qs.length (cellsP (s.tid k).qs) ∧ -128 ≤ (s.tid k).st ∧ (s.tid k).st ≤ 127
end Go.Proofs.YtbpkckahonmpkaaDoor
namespace Go.Proofs.YtbpkckahonmpkaaDoor
open Go.RowKit
def MtRaw (w : World) (m : Mt) (A D : Option Addr) : Prop := Reads w w.heap.size 1 A m.c.ps.length (cellsI .i64 m.c.ps) ∧ Reads w w.heap.size 3 D m.c.qs.length (cellsP m.c.qs) ∧ -128 ≤ m.c.st ∧ m.c.st ≤ 127
theorem MtRaw.co {w : World} {m : Mt} {A D : Option Addr} (h : MtRaw w m A D) (hb : bigT m.c = false) : CoR w w.heap.size m.c A D := by
  unfold bigT at hb
  simp only [Bool.or_eq_false_iff, decide_eq_false_iff_not, Nat.not_lt] at hb
  exact ⟨h.1, h.2.1, by omega, by omega⟩
theorem StRaw.st {w : World} {s : Sta} {a : Sad} (h : StRaw w s a) (hb : bigS s = false) : StR w w.heap.size s a := fun k hk => by
  have := bigS_no hb k hk
  exact ⟨(h k hk).1, (h k hk).2.1, by omega, by omega⟩
section
attribute [-go_sem] loadCells storeVar
set_option maxRecDepth 100000 in
set_option maxHeartbeats 4000000 in
theorem rGreat20_any (s : Sta) (a : Sad) (w : World) :
    Calls Tryd.prog 7 #[.agg (stX s a)] w fun e w' => e = .returned (.bool (bigS s)) ∧ Below w.heap.size w w' := by
  obtain ⟨W0, hW0⟩ : ∃ W0, W0 = w.alloc (.cells (stX s a) 31) := ⟨_, rfl⟩
  have B0 : Below w.heap.size w W0 := by rw [hW0]; exact bal (Below.refl _ _) _
  have K1 : Blk W0 w.heap.size 31 (stX s a) := by rw [hW0]; exact Blk.new w 31 (stX s a)
  have HW := Lib.hid hW0
  have HB := Lib.hid B0
  have HK := Lib.hid K1
  clear hW0 B0 K1
  go_enter Tryd.func7, Tryd.ntmps7
  go_upto_region 1 with (fail)
  rw [← HW.out]
  go_wp2_with fail
  go_loopg [3] 3 (fun mm y wq => ∃ (k : Nat), k ≤ 3 ∧ y = .int .i64 k ∧ mm = 3 - k ∧ (∀ i, i < k → bigT (s.tid i) = false) ∧ Below W0.heap.size W0 wq)
  case atStart => exact ⟨0, by omega, rfl, rfl, fun i hi => by omega, Below.refl _ _⟩
  case round =>
    obtain ⟨k, hk, rfl, hmm, hok, hbw⟩ := hrel
    have HMM := Lib.hid hmm
    have OK := Lib.hid hok
    have BW' := Lib.hid hbw
    clear hmm hok hbw
    by_cases hlt : k < 3
    · have d3 : decide ((k : Int) < 3) = true := decide_eq_true (by omega)
      have i1 : (0 : Int) ≤ (k : Int) := by omega
      have i2 : (k : Int) < 3 := by omega
      have lt1 := st_tid (HK.out.below BW'.out HK.out.lt) k hlt
      have GA := Lib.hid (Great_any (s.tid k) (a.A k) (a.D k) (a.c k) (a.e k) wr)
      obtain ⟨u, hu⟩ : ∃ u, bigB (s.tid k) = u := ⟨_, rfl⟩
      rw [hu] at GA
      have HU := Lib.hid (show bigT (s.tid k) = u from hu)
      clear hu
      go_wp2_with fail
      refine GA.out.mono ?_
      rintro e w3 ⟨rfl, b3⟩
      have B3 := Lib.hid (BW'.out.trans (b3.mono BW'.out.size))
      clear b3 lt1
      cases u
      · go_wp2_with fail
        go_roundg (gk - 1)
        case measure => have := HMM.out; omega
        case rel =>
          refine ⟨k + 1, by omega, by go_num, by have := HMM.out; omega, fun i hi => ?_, B3.out⟩
          rcases Nat.lt_succ_iff_lt_or_eq.1 hi with h | h
          · exact OK.out i h
          · rw [h, HU.out]
      · have HY := Lib.hid (show bigS s = true by
          unfold bigS
          rw [List.any_eq_true]
          exact ⟨k, List.mem_range.2 hlt, HU.out⟩)
        go_wp2_with fail
        go_ret
        rw [HY.out]
        exact ⟨rfl, HB.out.trans (B3.out.mono HB.out.size)⟩
    · obtain rfl : k = 3 := by omega
      have d3 : decide (((3 : Nat) : Int) < 3) = false := by decide
      have HN := Lib.hid (show bigS s = false by
        unfold bigS
        rw [List.any_eq_false]
        exact fun i hi => by rw [OK.out i (List.mem_range.1 hi)]; decide)
      go_wp2_with fail
      go_ret
      rw [HN.out]
      exact ⟨rfl, HB.out.trans (BW'.out.mono HB.out.size)⟩
set_option maxRecDepth 100000 in
set_option maxHeartbeats 4000000 in
theorem rGreat19_any (m : Mt) (A D : Option Addr) (c e : Nat) (w : World) :
    Calls Tryd.prog 8 #[.agg (mtX m A D c e)] w fun e w' => e = .returned (.bool (bigT m.c)) ∧ Below w.heap.size w w' := by
  obtain ⟨W0, hW0⟩ : ∃ W0, W0 = w.alloc (.cells (mtX m A D c e) 35) := ⟨_, rfl⟩
  have B0 : Below w.heap.size w W0 := by rw [hW0]; exact bal (Below.refl _ _) _
  have K1 : Blk W0 w.heap.size 35 (mtX m A D c e) := by rw [hW0]; exact Blk.new w 35 _
  have HW := Lib.hid hW0
  have HB := Lib.hid B0
  have y5 := mt_cell K1 (j := 13) rfl
  have y6 := mt_cell K1 (j := 14) rfl
  obtain ⟨u, hu⟩ : ∃ u, decide ((40 : Int) < (m.c.ps.length : Int)) = u := ⟨_, rfl⟩
  obtain ⟨v, hv⟩ : ∃ v, decide ((40 : Int) < (m.c.qs.length : Int)) = v := ⟨_, rfl⟩
  have HN := Lib.hid (show bigT m.c = (u || v) by
    unfold bigT
    rw [← hu, ← hv]
    congr 1
    · exact decide_eq_decide.2 (by omega)
    · exact decide_eq_decide.2 (by omega))
  clear hW0 B0 K1
  cases u
  · cases v
    · go_enter Tryd.func8, Tryd.ntmps8
      go_upto_region 1 with (fail)
      rw [← HW.out]
      go_wp2_with fail
      go_ret
      rw [HN.out]
      exact ⟨rfl, HB.out⟩
    · go_enter Tryd.func8, Tryd.ntmps8
      go_upto_region 1 with (fail)
      rw [← HW.out]
      go_wp2_with fail
      go_ret
      rw [HN.out]
      exact ⟨rfl, HB.out⟩
  · go_enter Tryd.func8, Tryd.ntmps8
    go_upto_region 1 with (fail)
    rw [← HW.out]
    go_wp2_with fail
    go_ret
    rw [HN.out]
    exact ⟨by simp, HB.out⟩
end
end Go.Proofs.YtbpkckahonmpkaaDoor
namespace Go.Proofs.YtbpkckahonmpkaaDoor
open Go.RowKit
section
attribute [-go_sem] loadCells storeVar
set_option maxRecDepth 100000 in
set_option maxHeartbeats 8000000 in
theorem mSameS_any (s t : Sta) (a c : Sad) (B1 B2 : Nat) (w : World) (h1 : StR w B1 s a) (h2 : StR w B2 t c) (hB1 : B1 ≤ w.heap.size) (hB2 : B2 ≤ w.heap.size) :
    Calls Tryd.prog 17 #[.agg (stX s a), .agg (stX t c)] w fun e w' => e = .returned (.bool (sameS s t)) ∧ Below w.heap.size w w' := by
  obtain ⟨W0, hW0⟩ : ∃ W0, W0 = (w.alloc (.cells (stX s a) 31)).alloc (.cells (stX t c) 31) := ⟨_, rfl⟩
  have B0 : Below w.heap.size w W0 := by rw [hW0]; exact bal (bal (Below.refl _ _) _) _
  have K1 : Blk W0 w.heap.size 31 (stX s a) := by rw [hW0]; exact (Blk.new w 31 (stX s a)).alloc _
  have K2 : Blk W0 (w.heap.size + 1) 31 (stX t c) := by rw [hW0]; exact bk_new _ 31 (stX t c) (by simp)
  have HW := Lib.hid hW0
  have HB := Lib.hid B0
  have HK := Lib.hid K1
  have HK2 := Lib.hid K2
  have HBB := Lib.hid (And.intro hB1 hB2)
  have H := Lib.hid (And.intro h1 h2)
  clear hW0 B0 K1 K2 h1 h2 hB1 hB2
  go_enter Tryd.func17, Tryd.ntmps17
  go_upto_region 1 with (fail)
  rw [← HW.out]
  go_wp2_with fail
  go_loopg [6] 3 (fun mm y wq => ∃ (k : Nat), k ≤ 3 ∧ y = .int .i64 k ∧ mm = 3 - k ∧ (∀ i, i < k → sameB (s.tid i) (t.tid i) = true) ∧ Below W0.heap.size W0 wq)
  case atStart => exact ⟨0, by omega, rfl, rfl, fun i hi => by omega, Below.refl _ _⟩
  case round =>
    obtain ⟨k, hk, rfl, hmm, hok, hbw⟩ := hrel
    have HMM := Lib.hid hmm
    have OK := Lib.hid hok
    have BW' := Lib.hid hbw
    have KW := Lib.hid (HK.out.below BW'.out HK.out.lt)
    have KV := Lib.hid (HK2.out.below BW'.out HK2.out.lt)
    have HBW := Lib.hid (HB.out.trans (BW'.out.mono HB.out.size))
    clear hmm hok hbw
    by_cases hlt : k < 3
    · have d3 : decide ((k : Int) < 3) = true := decide_eq_true (by omega)
      have i1 : (0 : Int) ≤ (k : Int) := by omega
      have i2 : (k : Int) < 3 := by omega
      obtain ⟨u, hu⟩ : ∃ u, sameB (s.tid k) (t.tid k) = u := ⟨_, rfl⟩
      have MY := Lib.hid (fun W (hW : Below wr.heap.size wr W) => show Calls Tryd.prog 38 #[(.agg #[.int .i8 (s.tid k).st, .int .i64 (s.tid k).pid, .int .i64 (s.tid k).ep, .int .i64 (s.tid k).tm, .int .i64 (s.tid k).th, .slice (a.A k) (s.tid k).ps.length (a.c k), .slice (a.D k) (s.tid k).qs.length (a.e k), .int .i64 (s.tid k).ag]), (.agg #[.int .i8 (t.tid k).st, .int .i64 (t.tid k).pid, .int .i64 (t.tid k).ep, .int .i64 (t.tid k).tm, .int .i64 (t.tid k).th, .slice (c.A k) (t.tid k).ps.length (c.c k), .slice (c.D k) (t.tid k).qs.length (c.e k), .int .i64 (t.tid k).ag])] W fun e w' => e = .returned (.bool u) ∧ Below W.heap.size W w' from by
        rw [← hu]
        exact Same_any (s.tid k) (t.tid k) (a.A k) (a.D k) (a.c k) (a.e k) (c.A k) (c.D k) (c.c k) (c.e k) B1 B2 W ((H.out.1 k hlt).below ((HBW.out.trans (hW.mono HBW.out.size)).mono HBB.out.1)) ((H.out.2 k hlt).below ((HBW.out.trans (hW.mono HBW.out.size)).mono HBB.out.2)) (by have := HBB.out.1; have := HBW.out.size; have := hW.size; omega) (by have := HBB.out.2; have := HBW.out.size; have := hW.size; omega))
      have lk := fun n : BW wr.heap.size wr => st_tid (KW.out.below n.2 KW.out.lt) k hlt
      have lj := fun n : BW wr.heap.size wr => st_tid (KV.out.below n.2 KV.out.lt) k hlt
      have HU := Lib.hid hu
      clear hu
      go_wp2_with fail
      refine wp_region_bq wr.heap.size (by kernel_rfl) (by kernel_rfl) ?_
      repeat (go_big_quiet_step ((go_at_call 38; exact bw_call (Nat.le_refl _) (MY.out _ (by exact Subtype.property _)))))
      refine wpQuiet_nil ?_
      rintro _ ⟨n, rfl⟩
      have BN := Lib.hid n.2
      clear lk lj
      cases u
      · have HNO := Lib.hid (show sameS s t = false by
          cases hx : sameS s t
          · rfl
          · unfold sameS at hx
            simp only [Bool.and_eq_true, List.all_eq_true, List.mem_range] at hx
            have := hx.1 k hlt
            rw [HU.out] at this; cases this)
        go_wp2_with fail
        go_ret
        rw [HNO.out]
        exact ⟨rfl, HBW.out.trans (BN.out.mono HBW.out.size)⟩
      · go_wp2_with fail
        go_roundg (gk - 1)
        case measure => have := HMM.out; omega
        case rel =>
          refine ⟨k + 1, by omega, by go_num, by have := HMM.out; omega, fun i hi => ?_, BW'.out.trans (BN.out.mono BW'.out.size)⟩
          rcases Nat.lt_succ_iff_lt_or_eq.1 hi with h | h
          · exact OK.out i h
          · rw [h]; exact HU.out
    · obtain rfl : k = 3 := by omega
      have d3 : decide (((3 : Nat) : Int) < 3) = false := by decide
      have x0 := st_made KW.out
      have y0 := st_made KV.out
      have x2 := st_grs KW.out
      have y2 := st_grs KV.out
      have eg := fun W => eqGr s t W
      obtain ⟨u, hu⟩ : ∃ u, (s.made == t.made) = u := ⟨_, rfl⟩
      obtain ⟨v, hv⟩ : ∃ v, grsB s t = v := ⟨_, rfl⟩
      have HS := Lib.hid (show sameS s t = (u && v) by
        unfold sameS
        rw [hu, hv, List.all_eq_true.2 (fun i hi => OK.out i (List.mem_range.1 hi)), Bool.true_and])
      rw [hv] at eg
      clear hv
      cases u
      · go_wp2_with fail
        go_ret
        rw [HS.out]
        exact ⟨rfl, HBW.out⟩
      · go_wp2_with fail
        go_ret
        rw [HS.out]
        exact ⟨rfl, HBW.out⟩
def movesB (m : Mt) : Bool := (m.kd == 2) || (m.kd == 3)
set_option maxRecDepth 100000 in
set_option maxHeartbeats 4000000 in
theorem moves20_any (m : Mt) (A D : Option Addr) (c e : Nat) (w : World) :
    Calls Tryd.prog 16 #[.agg (mtX m A D c e)] w fun e w' => e = .returned (.bool (movesB m)) ∧ Below w.heap.size w w' := by
  obtain ⟨W0, hW0⟩ : ∃ W0, W0 = w.alloc (.cells (mtX m A D c e) 35) := ⟨_, rfl⟩
  have B0 : Below w.heap.size w W0 := by rw [hW0]; exact bal (Below.refl _ _) _
  have K1 : Blk W0 w.heap.size 35 (mtX m A D c e) := by rw [hW0]; exact Blk.new w 35 _
  have HW := Lib.hid hW0
  have HB := Lib.hid B0
  have x0 := mt_cell K1 (j := 0) rfl
  obtain ⟨u, hu⟩ : ∃ u, (m.kd == 2) = u := ⟨_, rfl⟩
  obtain ⟨v, hv⟩ : ∃ v, (m.kd == 3) = v := ⟨_, rfl⟩
  have HM := Lib.hid (show movesB m = (u || v) by unfold movesB; rw [hu, hv])
  clear hW0 B0 K1
  cases u
  · go_enter Tryd.func16, Tryd.ntmps16
    go_upto_region 1 with (fail)
    rw [← HW.out]
    go_wp2_with fail
    go_ret
    rw [HM.out]
    exact ⟨by simp, HB.out⟩
  · go_enter Tryd.func16, Tryd.ntmps16
    go_upto_region 1 with (fail)
    rw [← HW.out]
    go_wp2_with fail
    go_ret
    rw [HM.out]
    exact ⟨by simp, HB.out⟩
end
/-! The plain law. -/
theorem put_may {s : Sta} {t : Nat} {d : Co} (h : mayS s = true) (hd : mayB d = true) (hp : d.pid = (s.tid t).pid) : mayS (s.put t d) = true := by
  obtain ⟨h0, h1, h2, h3⟩ := (mayS_iff s).1 h
  have hpid : ∀ k, ((s.put t d).tid k).pid = (s.tid k).pid := fun k => by
    by_cases e : k = t
    · rw [show (s.put t d).tid k = d from if_pos e, hp, e]
    · rw [show (s.put t d).tid k = s.tid k from if_neg e]
  refine (mayS_iff _).2 ⟨h0, h1, fun k hk => ?_, h3⟩
  obtain ⟨k1, k2, k3⟩ := (okT_iff s k).1 (h2 k hk)
  refine (okT_iff _ k).2 ⟨?_, by rw [hpid]; exact k2, fun j hj => by rw [hpid, hpid]; exact k3 j hj⟩
  by_cases e : k = t
  · rw [show (s.put t d).tid k = d from if_pos e]; exact hd
  · rw [show (s.put t d).tid k = s.tid k from if_neg e]; exact k1
/-- What an entry that moves a transactional id alone leads to. -/
theorem mv_next {s : Sta} {m : Mt} (hk : m.kd = 2 ∨ m.kd = 3) (h : nextE s m = 0) :
    mayS s = true ∧ mayM m = true ∧ moveE (s.tid m.tid.toNat) m s.made = 0 ∧ nextS s m = s.put m.tid.toNat (moveC (s.tid m.tid.toNat) m s.made) ∧
    mayB (moveC (s.tid m.tid.toNat) m s.made) = true ∧ (moveC (s.tid m.tid.toNat) m s.made).pid = (s.tid m.tid.toNat).pid := by
  have hs : mayS s = true := by
    cases hx : mayS s
    · unfold nextE at h; rw [if_pos (.inl hx)] at h; cases h
    · rfl
  have hm : mayM m = true := by
    cases hx : mayM m
    · unfold nextE at h; rw [if_pos (.inr hx)] at h; cases h
    · rfl
  have hk' : ¬ (m.kd = 0 ∨ m.kd = 5 ∨ m.kd = 7) := by omega
  have hn := next_m hs hm hk' (fun x => by omega)
  have ht : m.tid.toNat < 3 := by have := (mayM_fit hm).2.1; have := (mayM_fit hm).2.2.1; omega
  have hc : mayB (s.tid m.tid.toNat) = true := ((okT_iff s _).1 (((mayS_iff s).1 hs).2.2.1 _ ht)).1
  have hmv : moveE (s.tid m.tid.toNat) m s.made = 0 := by
    by_cases hx : moveE (s.tid m.tid.toNat) m s.made = 0
    · exact hx
    · rw [hn.1, if_pos hx] at h; exact absurd h hx
  have hmay := moveC_may hc hm hk' hmv
  have hts : toS s m = s.put m.tid.toNat (moveC (s.tid m.tid.toNat) m s.made) := by
    rw [hn.2, if_neg (fun x => by omega)]; rfl
  refine ⟨hs, hm, hmv, by unfold nextS; rw [if_pos h, hts], hmay, ?_⟩
  unfold moveE at hmv
  unfold moveC
  rcases hk with hk | hk
  · rw [if_neg (by omega), if_pos hk] at hmv ⊢
    rw [(set_ok hmv).2]
  · rw [if_neg (by omega), if_neg (by omega), if_pos hk] at hmv ⊢
    unfold prepC
    rw [if_pos hmv]
theorem mv_again {s : Sta} {m : Mt} (hk : m.kd = 2 ∨ m.kd = 3) (hs : mayS s = true) (hm : mayM m = true) (he : moveE (s.tid m.tid.toNat) m s.made = 0) (hp : (moveC (s.tid m.tid.toNat) m s.made).pid = (s.tid m.tid.toNat).pid) :
    nextE s m = 0 ∧ nextS s m = s.put m.tid.toNat (moveC (s.tid m.tid.toNat) m s.made) := by
  have hk' : ¬ (m.kd = 0 ∨ m.kd = 5 ∨ m.kd = 7) := by omega
  have hn := next_m hs hm hk' (fun x => by omega)
  have ht : m.tid.toNat < 3 := by have := (mayM_fit hm).2.1; have := (mayM_fit hm).2.2.1; omega
  have hc : mayB (s.tid m.tid.toNat) = true := ((okT_iff s _).1 (((mayS_iff s).1 hs).2.2.1 _ ht)).1
  have hts : toS s m = s.put m.tid.toNat (moveC (s.tid m.tid.toNat) m s.made) := by
    rw [hn.2, if_neg (fun x => by omega)]; rfl
  have h0 : nextE s m = 0 := by
    rw [hn.1, if_neg (by rw [he]; simp), hts, if_pos (put_may hs (moveC_may hc hm hk' he) hp)]
  exact ⟨h0, by unfold nextS; rw [if_pos h0, hts]⟩
theorem turns_law {s : Sta} {a b : Mt} (ha : a.kd = 2 ∨ a.kd = 3) (hb : b.kd = 5 ∨ ((b.kd = 2 ∨ b.kd = 3) ∧ ¬ a.tid = b.tid)) (h1 : nextE s a = 0) (h2 : nextE s b = 0) :
    nextE (nextS s a) b = 0 ∧ nextE (nextS s b) a = 0 ∧ sameS (nextS (nextS s a) b) (nextS (nextS s b) a) = true := by
  obtain ⟨hs, hma, ea, na, da, pa⟩ := mv_next ha h1
  have hya : mayS (nextS s a) = true := by rw [na]; exact put_may hs da pa
  rcases hb with hb | ⟨hb, hne⟩
  · have hmb : mayM b = true := by
      cases hx : mayM b
      · unfold nextE at h2; rw [if_pos (.inr hx)] at h2; cases h2
      · rfl
    have n1 := next_5 hs hmb hb
    have n2 := next_5 hya hmb hb
    have hyb : mayS (nextS s b) = true := by rw [n1.2]; exact may_pend1 hs (fit25 hmb (.inr hb))
    have n3 := mv_again (s := nextS s b) ha hyb hma (by rw [n1.2]; exact ea) (by rw [n1.2]; exact pa)
    refine ⟨n2.1, n3.1, ?_⟩
    have e : nextS (nextS s a) b = nextS (nextS s b) a := by
      rw [n2.2, n3.2, n1.2, na]
      rfl
    rw [e]; exact sameS_refl _
  · obtain ⟨_, hmb, eb, nb, db, pb⟩ := mv_next hb h2
    have hyb : mayS (nextS s b) = true := by rw [nb]; exact put_may hs db pb
    have hta : a.tid.toNat < 3 ∧ (a.tid.toNat : Int) = a.tid := by have := (mayM_fit hma).2.1; have := (mayM_fit hma).2.2.1; omega
    have htb : b.tid.toNat < 3 ∧ (b.tid.toNat : Int) = b.tid := by have := (mayM_fit hmb).2.1; have := (mayM_fit hmb).2.2.1; omega
    have hnt : ¬ a.tid.toNat = b.tid.toNat := by omega
    have t1 : (nextS s a).tid b.tid.toNat = s.tid b.tid.toNat := by rw [na]; exact if_neg (Ne.symm hnt)
    have t2 : (nextS s b).tid a.tid.toNat = s.tid a.tid.toNat := by rw [nb]; exact if_neg hnt
    have m1 : (nextS s a).made = s.made := by rw [na]; rfl
    have m2 : (nextS s b).made = s.made := by rw [nb]; rfl
    have n2 := mv_again (s := nextS s a) hb hya hmb (by rw [t1, m1]; exact eb) (by rw [t1, m1]; exact pb)
    have n3 := mv_again (s := nextS s b) ha hyb hma (by rw [t2, m2]; exact ea) (by rw [t2, m2]; exact pa)
    refine ⟨n2.1, n3.1, ?_⟩
    have e : nextS (nextS s a) b = nextS (nextS s b) a := by
      rw [n2.2, n3.2, t1, t2, m1, m2, na, nb]
      refine sta_ext rfl (fun k => ?_) (fun _ => rfl)
      show (if k = b.tid.toNat then _ else if k = a.tid.toNat then _ else s.tid k) = if k = a.tid.toNat then _ else if k = b.tid.toNat then _ else s.tid k
      by_cases ka : k = a.tid.toNat
      · rw [if_neg (fun x => hnt (ka.symm.trans x)), if_pos ka, if_pos ka]
      · rw [if_neg ka, if_neg ka]
    rw [e]; exact sameS_refl _
end Go.Proofs.YtbpkckahonmpkaaDoor
namespace Go.Proofs.YtbpkckahonmpkaaDoor
open Go.RowKit
section
attribute [-go_sem] loadCells storeVar
set_option maxRecDepth 100000 in
set_option maxHeartbeats 8000000 in
theorem mturns_walk (s : Sta) (a : Sad) (m n : Mt) (A1 D1 A2 D2 : Option Addr) (c1 e1 c2 e2 : Nat) (w : World) (hg : HasET w) (h : StRaw w s a) (hm : MtRaw w m A1 D1) (hn : MtRaw w n A2 D2) :
    Calls Tryd.prog 5 #[.agg (stX s a), .agg (mtX m A1 D1 c1 e1), .agg (mtX n A2 D2 c2 e2)] w fun e w' => e = .returned (.bool true) ∧ Below w.heap.size w w' := by
  obtain ⟨W0, hW0⟩ : ∃ W0, W0 = ((w.alloc (.cells (stX s a) 31)).alloc (.cells (mtX m A1 D1 c1 e1) 35)).alloc (.cells (mtX n A2 D2 c2 e2) 35) := ⟨_, rfl⟩
  have B0 : Below w.heap.size w W0 := by rw [hW0]; exact bal (bal (bal (Below.refl _ _) _) _) _
  have K1 : Blk W0 w.heap.size 31 (stX s a) := by rw [hW0]; exact ((Blk.new w 31 (stX s a)).alloc _).alloc _
  have K2 : Blk W0 (w.heap.size + 1) 35 (mtX m A1 D1 c1 e1) := by rw [hW0]; exact (bk_new _ 35 _ (by simp)).alloc _
  have K3 : Blk W0 (w.heap.size + 1 + 1) 35 (mtX n A2 D2 c2 e2) := by rw [hW0]; exact bk_new _ 35 _ (by simp)
  have HW := Lib.hid hW0
  have HG := Lib.hid hg
  have H := Lib.hid h
  have HM := Lib.hid hm
  have HN := Lib.hid hn
  have B1 := Lib.hid B0
  have KS1 := Lib.hid K1
  have KM1 := Lib.hid K2
  have KN1 := Lib.hid K3
  have l1 := st_load K1
  have CA := Lib.hid (rGreat20_any s a W0)
  clear hW0 B0 K1 K2 K3 hg h hm hn
  obtain ⟨u1, hu1⟩ : ∃ u, bigS s = u := ⟨_, rfl⟩
  obtain ⟨u2, hu2⟩ : ∃ u, bigT m.c = u := ⟨_, rfl⟩
  obtain ⟨u3, hu3⟩ : ∃ u, bigT n.c = u := ⟨_, rfl⟩
  obtain ⟨u4, hu4⟩ : ∃ u, movesB m = u := ⟨_, rfl⟩
  obtain ⟨u5, hu5⟩ : ∃ u, movesB n = u := ⟨_, rfl⟩
  have HU1 := Lib.hid hu1
  have HU2 := Lib.hid hu2
  have HU3 := Lib.hid hu3
  have HU4 := Lib.hid hu4
  have HU5 := Lib.hid hu5
  clear hu1 hu2 hu3 hu4 hu5
  rw [HU1.out] at CA
  go_enter Tryd.func5, Tryd.ntmps5
  go_upto_region 1 with (fail)
  rw [← HW.out]
  go_wp2_with fail
  refine CA.out.mono ?_
  rintro e w2 ⟨rfl, b2⟩
  have B2 := Lib.hid (B1.out.trans (b2.mono B1.out.size))
  have KS2 := Lib.hid (KS1.out.below b2 KS1.out.lt)
  have KM2 := Lib.hid (KM1.out.below b2 KM1.out.lt)
  have KN2 := Lib.hid (KN1.out.below b2 KN1.out.lt)
  clear b2 CA l1
  cases u1
  rotate_left
  · skip
    have WK := Lib.hid (wakes20 w2 (HG.out.up B2.out))
    go_wp2_with fail
    refine WK.out.mono ?_
    rintro e w99 ⟨rfl, b99⟩
    have B99 := Lib.hid (B2.out.trans (b99.mono B2.out.size))
    clear b99
    go_wp2_with fail
    go_ret
    exact ⟨rfl, B99.out⟩
  have l2 := mt_load (P := Tryd.prog) KM2.out
  have CA := Lib.hid (rGreat19_any m A1 D1 c1 e1 w2)
  rw [HU2.out] at CA
  go_wp2_with fail
  refine CA.out.mono ?_
  rintro e w3 ⟨rfl, b3⟩
  have B3 := Lib.hid (B2.out.trans (b3.mono B2.out.size))
  have KS3 := Lib.hid (KS2.out.below b3 KS2.out.lt)
  have KM3 := Lib.hid (KM2.out.below b3 KM2.out.lt)
  have KN3 := Lib.hid (KN2.out.below b3 KN2.out.lt)
  clear b3 CA l2
  cases u2
  rotate_left
  · skip
    have WK := Lib.hid (wakes20 w3 (HG.out.up B3.out))
    go_wp2_with fail
    refine WK.out.mono ?_
    rintro e w99 ⟨rfl, b99⟩
    have B99 := Lib.hid (B3.out.trans (b99.mono B3.out.size))
    clear b99
    go_wp2_with fail
    go_ret
    exact ⟨rfl, B99.out⟩
  have l2 := mt_load (P := Tryd.prog) KN3.out
  have CA := Lib.hid (rGreat19_any n A2 D2 c2 e2 w3)
  rw [HU3.out] at CA
  go_wp2_with fail
  refine CA.out.mono ?_
  rintro e w4 ⟨rfl, b4⟩
  have B4 := Lib.hid (B3.out.trans (b4.mono B3.out.size))
  have KS4 := Lib.hid (KS3.out.below b4 KS3.out.lt)
  have KM4 := Lib.hid (KM3.out.below b4 KM3.out.lt)
  have KN4 := Lib.hid (KN3.out.below b4 KN3.out.lt)
  clear b4 CA l2
  cases u3
  rotate_left
  · skip
    have WK := Lib.hid (wakes20 w4 (HG.out.up B4.out))
    go_wp2_with fail
    refine WK.out.mono ?_
    rintro e w99 ⟨rfl, b99⟩
    have B99 := Lib.hid (B4.out.trans (b99.mono B4.out.size))
    clear b99
    go_wp2_with fail
    go_ret
    exact ⟨rfl, B99.out⟩
  have l2 := mt_load (P := Tryd.prog) KM4.out
  have CA := Lib.hid (moves20_any m A1 D1 c1 e1 w4)
  rw [HU4.out] at CA
  go_wp2_with fail
  refine CA.out.mono ?_
  rintro e w5 ⟨rfl, b5⟩
  have B5 := Lib.hid (B4.out.trans (b5.mono B4.out.size))
  have KS5 := Lib.hid (KS4.out.below b5 KS4.out.lt)
  have KM5 := Lib.hid (KM4.out.below b5 KM4.out.lt)
  have KN5 := Lib.hid (KN4.out.below b5 KN4.out.lt)
  clear b5 CA l2
  cases u4
  · skip
    have WK := Lib.hid (wakes20 w5 (HG.out.up B5.out))
    go_wp2_with fail
    refine WK.out.mono ?_
    rintro e w99 ⟨rfl, b99⟩
    have B99 := Lib.hid (B5.out.trans (b99.mono B5.out.size))
    clear b99
    go_wp2_with fail
    go_ret
    exact ⟨rfl, B99.out⟩
  have l2 := mt_load (P := Tryd.prog) KN5.out
  have CA := Lib.hid (moves20_any n A2 D2 c2 e2 w5)
  rw [HU5.out] at CA
  go_wp2_with fail
  refine CA.out.mono ?_
  rintro e w6 ⟨rfl, b6⟩
  have B6 := Lib.hid (B5.out.trans (b6.mono B5.out.size))
  have KS6 := Lib.hid (KS5.out.below b6 KS5.out.lt)
  have KM6 := Lib.hid (KM5.out.below b6 KM5.out.lt)
  have KN6 := Lib.hid (KN5.out.below b6 KN5.out.lt)
  clear b6 CA l2
  cases u5
  · have v0 := mt_cell KN6.out (j := 0) rfl
    by_cases h5 : n.kd = 5
    · have d5 : (n.kd != 5) = false := by rw [h5]; rfl
      have d5' : (n.kd == 5) = true := by rw [h5]; rfl
      have HL := Lib.hid (show n.kd = 5 ∨ ((n.kd = 2 ∨ n.kd = 3) ∧ ¬ m.tid = n.tid) from .inl h5)
      have l2 := mt_load (P := Tryd.prog) KN6.out
      have CA := Lib.hid (moves20_any n A2 D2 c2 e2 w6)
      rw [HU5.out] at CA
      clear h5
      go_wp2_with fail
      refine CA.out.mono ?_
      rintro e w7 ⟨rfl, b7⟩
      have B7 := Lib.hid (B6.out.trans (b7.mono B6.out.size))
      have KS7 := Lib.hid (KS6.out.below b7 KS6.out.lt)
      have KM7 := Lib.hid (KM6.out.below b7 KM6.out.lt)
      have KN7 := Lib.hid (KN6.out.below b7 KN6.out.lt)
      clear b7 CA l2 v0
      have S0 := Lib.hid (H.out.st HU1.out)
      have C1 := Lib.hid (HM.out.co HU2.out)
      have C2 := Lib.hid (HN.out.co HU3.out)
      have ma := Lib.hid (show m.kd = 2 ∨ m.kd = 3 by have := HU4.out; unfold movesB at this; simpa using this)
      obtain ⟨f1, hf1⟩ : ∃ f, nextE s m = f := ⟨_, rfl⟩
      obtain ⟨f2, hf2⟩ : ∃ f, nextE s n = f := ⟨_, rfl⟩
      have HF1 := Lib.hid hf1
      have HF2 := Lib.hid hf2
      clear hf1 hf2
      have l1 := st_load KS7.out
      have l2 := mt_load (P := Tryd.prog) KM7.out
      have N1 := Lib.hid (mNext_any s a m A1 D1 c1 e1 w7.heap.size w7 (S0.out.up B7.out) (C1.out.up B7.out) (Nat.le_refl _) (HG.out.up B7.out))
      rw [HF1.out] at N1
      go_wp2_with fail
      refine N1.out.mono ?_
      rintro e w11 ⟨a3, rfl, r3, b3, n3⟩
      obtain ⟨W12, st12, k4, b4, s4⟩ := bk_fresh (P := Tryd.prog) w11 31 #[.int .i64 0, .int .i8 0, .int .i64 0, .int .i64 0, .int .i64 0, .int .i64 0, .slice none 0 0, .slice none 0 0, .int .i64 0, .int .i8 0, .int .i64 0, .int .i64 0, .int .i64 0, .int .i64 0, .slice none 0 0, .slice none 0 0, .int .i64 0, .int .i8 0, .int .i64 0, .int .i64 0, .int .i64 0, .int .i64 0, .slice none 0 0, .slice none 0 0, .int .i64 0, .int .i64 0, .int .i64 0, .int .i64 0, .int .i64 0, .int .i64 0, .int .i64 0] (stX (nextS s m) a3) 31 infoSta rfl (stX_size ..) (stX_one ..)
      have bb := b3.trans (b4.mono b3.size)
      have B12 := Lib.hid (B7.out.trans (bb.mono B7.out.size))
      have KS12 := Lib.hid (KS7.out.below bb KS7.out.lt)
      have KM12 := Lib.hid (KM7.out.below bb KM7.out.lt)
      have KN12 := Lib.hid (KN7.out.below bb KN7.out.lt)
      have KX12 := Lib.hid k4
      have RX12 := Lib.hid (show StR W12 W12.heap.size (nextS s m) a3 from r3.up b4)
      clear r3 b3 n3 k4 b4 s4 bb l1 l2
      have l1 := st_load KS12.out
      have l2 := mt_load (P := Tryd.prog) KN12.out
      have N2 := Lib.hid (mNext_any s a n A2 D2 c2 e2 W12.heap.size W12 (S0.out.up B12.out) (C2.out.up B12.out) (Nat.le_refl _) (HG.out.up B12.out))
      rw [HF2.out] at N2
      go_wp2_with fail
      refine N2.out.mono ?_
      rintro e w13 ⟨a4, rfl, r3, b3, n3⟩
      obtain ⟨W14, st14, k4, b4, s4⟩ := bk_fresh (P := Tryd.prog) w13 31 #[.int .i64 0, .int .i8 0, .int .i64 0, .int .i64 0, .int .i64 0, .int .i64 0, .slice none 0 0, .slice none 0 0, .int .i64 0, .int .i8 0, .int .i64 0, .int .i64 0, .int .i64 0, .int .i64 0, .slice none 0 0, .slice none 0 0, .int .i64 0, .int .i8 0, .int .i64 0, .int .i64 0, .int .i64 0, .int .i64 0, .slice none 0 0, .slice none 0 0, .int .i64 0, .int .i64 0, .int .i64 0, .int .i64 0, .int .i64 0, .int .i64 0, .int .i64 0] (stX (nextS s n) a4) 31 infoSta rfl (stX_size ..) (stX_one ..)
      have bb := b3.trans (b4.mono b3.size)
      have B14 := Lib.hid (B12.out.trans (bb.mono B12.out.size))
      have KM14 := Lib.hid (KM12.out.below bb KM12.out.lt)
      have KN14 := Lib.hid (KN12.out.below bb KN12.out.lt)
      have KX14 := Lib.hid (KX12.out.below bb KX12.out.lt)
      have RX14 := Lib.hid (RX12.out.up bb)
      have KY14 := Lib.hid k4
      have RY14 := Lib.hid (show StR W14 W14.heap.size (nextS s n) a4 from r3.up b4)
      clear r3 b3 n3 k4 b4 s4 bb l1 l2 st12
      by_cases hz1 : f1 = 0
      · by_cases hz2 : f2 = 0
        · subst hz1
          subst hz2
          have LAW := Lib.hid (turns_law ma.out HL.out HF1.out HF2.out)
          have l1 := st_load KX14.out
          have l2 := mt_load (P := Tryd.prog) KN14.out
          have N3 := Lib.hid (mNext_any (nextS s m) a3 n A2 D2 c2 e2 W14.heap.size W14 RX14.out (C2.out.up B14.out) (Nat.le_refl _) (HG.out.up B14.out))
          rw [LAW.out.1] at N3
          go_wp2_with fail
          refine N3.out.mono ?_
          rintro e w15 ⟨a5, rfl, r3, b3, n3⟩
          obtain ⟨W16, st16, k4, b4, s4⟩ := bk_fresh (P := Tryd.prog) w15 31 #[.int .i64 0, .int .i8 0, .int .i64 0, .int .i64 0, .int .i64 0, .int .i64 0, .slice none 0 0, .slice none 0 0, .int .i64 0, .int .i8 0, .int .i64 0, .int .i64 0, .int .i64 0, .int .i64 0, .slice none 0 0, .slice none 0 0, .int .i64 0, .int .i8 0, .int .i64 0, .int .i64 0, .int .i64 0, .int .i64 0, .slice none 0 0, .slice none 0 0, .int .i64 0, .int .i64 0, .int .i64 0, .int .i64 0, .int .i64 0, .int .i64 0, .int .i64 0] (stX (nextS (nextS s m) n) a5) 31 infoSta rfl (stX_size ..) (stX_one ..)
          have bb := b3.trans (b4.mono b3.size)
          have B16 := Lib.hid (B14.out.trans (bb.mono B14.out.size))
          have KM16 := Lib.hid (KM14.out.below bb KM14.out.lt)
          have KY16 := Lib.hid (KY14.out.below bb KY14.out.lt)
          have RY16 := Lib.hid (RY14.out.up bb)
          have KU16 := Lib.hid k4
          have RU16 := Lib.hid (show StR W16 W16.heap.size (nextS (nextS s m) n) a5 from r3.up b4)
          clear r3 b3 n3 k4 b4 s4 bb l1 l2 st14
          have l1 := st_load KY16.out
          have l2 := mt_load (P := Tryd.prog) KM16.out
          have N4 := Lib.hid (mNext_any (nextS s n) a4 m A1 D1 c1 e1 W16.heap.size W16 RY16.out (C1.out.up B16.out) (Nat.le_refl _) (HG.out.up B16.out))
          rw [LAW.out.2.1] at N4
          go_wp2_with fail
          refine N4.out.mono ?_
          rintro e w17 ⟨a6, rfl, r3, b3, n3⟩
          obtain ⟨W18, st18, k4, b4, s4⟩ := bk_fresh (P := Tryd.prog) w17 31 #[.int .i64 0, .int .i8 0, .int .i64 0, .int .i64 0, .int .i64 0, .int .i64 0, .slice none 0 0, .slice none 0 0, .int .i64 0, .int .i8 0, .int .i64 0, .int .i64 0, .int .i64 0, .int .i64 0, .slice none 0 0, .slice none 0 0, .int .i64 0, .int .i8 0, .int .i64 0, .int .i64 0, .int .i64 0, .int .i64 0, .slice none 0 0, .slice none 0 0, .int .i64 0, .int .i64 0, .int .i64 0, .int .i64 0, .int .i64 0, .int .i64 0, .int .i64 0] (stX (nextS (nextS s n) m) a6) 31 infoSta rfl (stX_size ..) (stX_one ..)
          have bb := b3.trans (b4.mono b3.size)
          have B18 := Lib.hid (B16.out.trans (bb.mono B16.out.size))
          have lu := st_load (KU16.out.below bb KU16.out.lt)
          have lv := st_load k4
          have SM := Lib.hid (mSameS_any (nextS (nextS s m) n) (nextS (nextS s n) m) a5 a6 W18.heap.size W18.heap.size W18 (RU16.out.up bb) (r3.up b4) (Nat.le_refl _) (Nat.le_refl _))
          rw [LAW.out.2.2] at SM
          clear r3 b3 n3 k4 b4 s4 bb l1 l2 st16
          go_wp2_with fail
          refine SM.out.mono ?_
          rintro e w19 ⟨rfl, b19⟩
          have B19 := Lib.hid (B18.out.trans (b19.mono B18.out.size))
          clear b19 lu lv st18
          have WK := Lib.hid (wakes20 w19 (HG.out.up B19.out))
          go_wp2_with fail
          refine WK.out.mono ?_
          rintro e w99 ⟨rfl, b99⟩
          have B99 := Lib.hid (B19.out.trans (b99.mono B19.out.size))
          clear b99
          go_wp2_with fail
          go_ret
          exact ⟨rfl, B99.out⟩
        · have dz1 : (f1 != 0) = false := by rw [hz1]; rfl
          have dz1' : (f1 == 0) = true := by rw [hz1]; rfl
          have dz2 : (f2 != 0) = true := by simp [hz2]
          have dz2' : (f2 == 0) = false := by simp [hz2]
          clear hz1 hz2
          have WK := Lib.hid (wakes20 W14 (HG.out.up B14.out))
          go_wp2_with fail
          refine WK.out.mono ?_
          rintro e w99 ⟨rfl, b99⟩
          have B99 := Lib.hid (B14.out.trans (b99.mono B14.out.size))
          clear b99
          go_wp2_with fail
          go_ret
          exact ⟨rfl, B99.out⟩
      · have dz1 : (f1 != 0) = true := by simp [hz1]
        have dz1' : (f1 == 0) = false := by simp [hz1]
        clear hz1
        have WK := Lib.hid (wakes20 W14 (HG.out.up B14.out))
        go_wp2_with fail
        refine WK.out.mono ?_
        rintro e w99 ⟨rfl, b99⟩
        have B99 := Lib.hid (B14.out.trans (b99.mono B14.out.size))
        clear b99
        go_wp2_with fail
        go_ret
        exact ⟨rfl, B99.out⟩
    · have d5 : (n.kd != 5) = true := by simp [h5]
      have d5' : (n.kd == 5) = false := by simp [h5]
      clear h5
      have WK := Lib.hid (wakes20 w6 (HG.out.up B6.out))
      go_wp2_with fail
      refine WK.out.mono ?_
      rintro e w99 ⟨rfl, b99⟩
      have B99 := Lib.hid (B6.out.trans (b99.mono B6.out.size))
      clear b99
      go_wp2_with fail
      go_ret
      exact ⟨rfl, B99.out⟩
  · have l2 := mt_load (P := Tryd.prog) KN6.out
    have CA := Lib.hid (moves20_any n A2 D2 c2 e2 w6)
    rw [HU5.out] at CA
    go_wp2_with fail
    refine CA.out.mono ?_
    rintro e w7 ⟨rfl, b7⟩
    have B7 := Lib.hid (B6.out.trans (b7.mono B6.out.size))
    have KS7 := Lib.hid (KS6.out.below b7 KS6.out.lt)
    have KM7 := Lib.hid (KM6.out.below b7 KM6.out.lt)
    have KN7 := Lib.hid (KN6.out.below b7 KN6.out.lt)
    clear b7 CA l2
    have v1 := mt_cell KM7.out (j := 1) rfl
    have v2 := mt_cell KN7.out (j := 1) rfl
    by_cases ht : m.tid = n.tid
    · have dt : (m.tid == n.tid) = true := by simp [ht]
      clear ht
      have WK := Lib.hid (wakes20 w7 (HG.out.up B7.out))
      go_wp2_with fail
      refine WK.out.mono ?_
      rintro e w99 ⟨rfl, b99⟩
      have B99 := Lib.hid (B7.out.trans (b99.mono B7.out.size))
      clear b99
      go_wp2_with fail
      go_ret
      exact ⟨rfl, B99.out⟩
    · have dt : (m.tid == n.tid) = false := by simp [ht]
      have HL := Lib.hid (show n.kd = 5 ∨ ((n.kd = 2 ∨ n.kd = 3) ∧ ¬ m.tid = n.tid) from .inr ⟨by have := HU5.out; unfold movesB at this; simpa using this, ht⟩)
      clear ht
      have S0 := Lib.hid (H.out.st HU1.out)
      have C1 := Lib.hid (HM.out.co HU2.out)
      have C2 := Lib.hid (HN.out.co HU3.out)
      have ma := Lib.hid (show m.kd = 2 ∨ m.kd = 3 by have := HU4.out; unfold movesB at this; simpa using this)
      obtain ⟨f1, hf1⟩ : ∃ f, nextE s m = f := ⟨_, rfl⟩
      obtain ⟨f2, hf2⟩ : ∃ f, nextE s n = f := ⟨_, rfl⟩
      have HF1 := Lib.hid hf1
      have HF2 := Lib.hid hf2
      clear hf1 hf2
      have l1 := st_load KS7.out
      have l2 := mt_load (P := Tryd.prog) KM7.out
      have N1 := Lib.hid (mNext_any s a m A1 D1 c1 e1 w7.heap.size w7 (S0.out.up B7.out) (C1.out.up B7.out) (Nat.le_refl _) (HG.out.up B7.out))
      rw [HF1.out] at N1
      go_wp2_with fail
      refine N1.out.mono ?_
      rintro e w11 ⟨a3, rfl, r3, b3, n3⟩
      obtain ⟨W12, st12, k4, b4, s4⟩ := bk_fresh (P := Tryd.prog) w11 31 #[.int .i64 0, .int .i8 0, .int .i64 0, .int .i64 0, .int .i64 0, .int .i64 0, .slice none 0 0, .slice none 0 0, .int .i64 0, .int .i8 0, .int .i64 0, .int .i64 0, .int .i64 0, .int .i64 0, .slice none 0 0, .slice none 0 0, .int .i64 0, .int .i8 0, .int .i64 0, .int .i64 0, .int .i64 0, .int .i64 0, .slice none 0 0, .slice none 0 0, .int .i64 0, .int .i64 0, .int .i64 0, .int .i64 0, .int .i64 0, .int .i64 0, .int .i64 0] (stX (nextS s m) a3) 31 infoSta rfl (stX_size ..) (stX_one ..)
      have bb := b3.trans (b4.mono b3.size)
      have B12 := Lib.hid (B7.out.trans (bb.mono B7.out.size))
      have KS12 := Lib.hid (KS7.out.below bb KS7.out.lt)
      have KM12 := Lib.hid (KM7.out.below bb KM7.out.lt)
      have KN12 := Lib.hid (KN7.out.below bb KN7.out.lt)
      have KX12 := Lib.hid k4
      have RX12 := Lib.hid (show StR W12 W12.heap.size (nextS s m) a3 from r3.up b4)
      clear r3 b3 n3 k4 b4 s4 bb l1 l2
      have l1 := st_load KS12.out
      have l2 := mt_load (P := Tryd.prog) KN12.out
      have N2 := Lib.hid (mNext_any s a n A2 D2 c2 e2 W12.heap.size W12 (S0.out.up B12.out) (C2.out.up B12.out) (Nat.le_refl _) (HG.out.up B12.out))
      rw [HF2.out] at N2
      go_wp2_with fail
      refine N2.out.mono ?_
      rintro e w13 ⟨a4, rfl, r3, b3, n3⟩
      obtain ⟨W14, st14, k4, b4, s4⟩ := bk_fresh (P := Tryd.prog) w13 31 #[.int .i64 0, .int .i8 0, .int .i64 0, .int .i64 0, .int .i64 0, .int .i64 0, .slice none 0 0, .slice none 0 0, .int .i64 0, .int .i8 0, .int .i64 0, .int .i64 0, .int .i64 0, .int .i64 0, .slice none 0 0, .slice none 0 0, .int .i64 0, .int .i8 0, .int .i64 0, .int .i64 0, .int .i64 0, .int .i64 0, .slice none 0 0, .slice none 0 0, .int .i64 0, .int .i64 0, .int .i64 0, .int .i64 0, .int .i64 0, .int .i64 0, .int .i64 0] (stX (nextS s n) a4) 31 infoSta rfl (stX_size ..) (stX_one ..)
      have bb := b3.trans (b4.mono b3.size)
      have B14 := Lib.hid (B12.out.trans (bb.mono B12.out.size))
      have KM14 := Lib.hid (KM12.out.below bb KM12.out.lt)
      have KN14 := Lib.hid (KN12.out.below bb KN12.out.lt)
      have KX14 := Lib.hid (KX12.out.below bb KX12.out.lt)
      have RX14 := Lib.hid (RX12.out.up bb)
      have KY14 := Lib.hid k4
      have RY14 := Lib.hid (show StR W14 W14.heap.size (nextS s n) a4 from r3.up b4)
      clear r3 b3 n3 k4 b4 s4 bb l1 l2 st12
      by_cases hz1 : f1 = 0
      · by_cases hz2 : f2 = 0
        · subst hz1
          subst hz2
          have LAW := Lib.hid (turns_law ma.out HL.out HF1.out HF2.out)
          have l1 := st_load KX14.out
          have l2 := mt_load (P := Tryd.prog) KN14.out
          have N3 := Lib.hid (mNext_any (nextS s m) a3 n A2 D2 c2 e2 W14.heap.size W14 RX14.out (C2.out.up B14.out) (Nat.le_refl _) (HG.out.up B14.out))
          rw [LAW.out.1] at N3
          go_wp2_with fail
          refine N3.out.mono ?_
          rintro e w15 ⟨a5, rfl, r3, b3, n3⟩
          obtain ⟨W16, st16, k4, b4, s4⟩ := bk_fresh (P := Tryd.prog) w15 31 #[.int .i64 0, .int .i8 0, .int .i64 0, .int .i64 0, .int .i64 0, .int .i64 0, .slice none 0 0, .slice none 0 0, .int .i64 0, .int .i8 0, .int .i64 0, .int .i64 0, .int .i64 0, .int .i64 0, .slice none 0 0, .slice none 0 0, .int .i64 0, .int .i8 0, .int .i64 0, .int .i64 0, .int .i64 0, .int .i64 0, .slice none 0 0, .slice none 0 0, .int .i64 0, .int .i64 0, .int .i64 0, .int .i64 0, .int .i64 0, .int .i64 0, .int .i64 0] (stX (nextS (nextS s m) n) a5) 31 infoSta rfl (stX_size ..) (stX_one ..)
          have bb := b3.trans (b4.mono b3.size)
          have B16 := Lib.hid (B14.out.trans (bb.mono B14.out.size))
          have KM16 := Lib.hid (KM14.out.below bb KM14.out.lt)
          have KY16 := Lib.hid (KY14.out.below bb KY14.out.lt)
          have RY16 := Lib.hid (RY14.out.up bb)
          have KU16 := Lib.hid k4
          have RU16 := Lib.hid (show StR W16 W16.heap.size (nextS (nextS s m) n) a5 from r3.up b4)
          clear r3 b3 n3 k4 b4 s4 bb l1 l2 st14
          have l1 := st_load KY16.out
          have l2 := mt_load (P := Tryd.prog) KM16.out
          have N4 := Lib.hid (mNext_any (nextS s n) a4 m A1 D1 c1 e1 W16.heap.size W16 RY16.out (C1.out.up B16.out) (Nat.le_refl _) (HG.out.up B16.out))
          rw [LAW.out.2.1] at N4
          go_wp2_with fail
          refine N4.out.mono ?_
          rintro e w17 ⟨a6, rfl, r3, b3, n3⟩
          obtain ⟨W18, st18, k4, b4, s4⟩ := bk_fresh (P := Tryd.prog) w17 31 #[.int .i64 0, .int .i8 0, .int .i64 0, .int .i64 0, .int .i64 0, .int .i64 0, .slice none 0 0, .slice none 0 0, .int .i64 0, .int .i8 0, .int .i64 0, .int .i64 0, .int .i64 0, .int .i64 0, .slice none 0 0, .slice none 0 0, .int .i64 0, .int .i8 0, .int .i64 0, .int .i64 0, .int .i64 0, .int .i64 0, .slice none 0 0, .slice none 0 0, .int .i64 0, .int .i64 0, .int .i64 0, .int .i64 0, .int .i64 0, .int .i64 0, .int .i64 0] (stX (nextS (nextS s n) m) a6) 31 infoSta rfl (stX_size ..) (stX_one ..)
          have bb := b3.trans (b4.mono b3.size)
          have B18 := Lib.hid (B16.out.trans (bb.mono B16.out.size))
          have lu := st_load (KU16.out.below bb KU16.out.lt)
          have lv := st_load k4
          have SM := Lib.hid (mSameS_any (nextS (nextS s m) n) (nextS (nextS s n) m) a5 a6 W18.heap.size W18.heap.size W18 (RU16.out.up bb) (r3.up b4) (Nat.le_refl _) (Nat.le_refl _))
          rw [LAW.out.2.2] at SM
          clear r3 b3 n3 k4 b4 s4 bb l1 l2 st16
          go_wp2_with fail
          refine SM.out.mono ?_
          rintro e w19 ⟨rfl, b19⟩
          have B19 := Lib.hid (B18.out.trans (b19.mono B18.out.size))
          clear b19 lu lv st18
          have WK := Lib.hid (wakes20 w19 (HG.out.up B19.out))
          go_wp2_with fail
          refine WK.out.mono ?_
          rintro e w99 ⟨rfl, b99⟩
          have B99 := Lib.hid (B19.out.trans (b99.mono B19.out.size))
          clear b99
          go_wp2_with fail
          go_ret
          exact ⟨rfl, B99.out⟩
        · have dz1 : (f1 != 0) = false := by rw [hz1]; rfl
          have dz1' : (f1 == 0) = true := by rw [hz1]; rfl
          have dz2 : (f2 != 0) = true := by simp [hz2]
          have dz2' : (f2 == 0) = false := by simp [hz2]
          clear hz1 hz2
          have WK := Lib.hid (wakes20 W14 (HG.out.up B14.out))
          go_wp2_with fail
          refine WK.out.mono ?_
          rintro e w99 ⟨rfl, b99⟩
          have B99 := Lib.hid (B14.out.trans (b99.mono B14.out.size))
          clear b99
          go_wp2_with fail
          go_ret
          exact ⟨rfl, B99.out⟩
      · have dz1 : (f1 != 0) = true := by simp [hz1]
        have dz1' : (f1 == 0) = false := by simp [hz1]
        clear hz1
        have WK := Lib.hid (wakes20 W14 (HG.out.up B14.out))
        go_wp2_with fail
        refine WK.out.mono ?_
        rintro e w99 ⟨rfl, b99⟩
        have B99 := Lib.hid (B14.out.trans (b99.mono B14.out.size))
        clear b99
        go_wp2_with fail
        go_ret
        exact ⟨rfl, B99.out⟩
end
end Go.Proofs.YtbpkckahonmpkaaDoor
