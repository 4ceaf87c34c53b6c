/-
  What the rows' list gives (the library's variable errors.errorType), a world for the witness, and bytes out of an argument.
  Layer 20: what the document says of four entries (wakes); which states and entries are too great.
  Layer 20: whether two states are the same, by the document.
  Layer 21: what the document says of a transaction that is 3 ticks old.
  Whole states as they are handed in.
  The statement MetaNext: its walk.
  Arguments with lists of numbers and of offsets, opened: how their lists lie in memory. (After the guide's page on structs.)
  Arguments that are whole states, opened.
  Arguments that are entries of a coordinator's log, or slices of these, opened.
-/
import Derived.Test.YtbpkckahonmpkaaDoorMeNextProofP21
import Derived.Great.BuildSlice
import Derived.Laws.StructEq
import Derived.Deep.Slices
import Derived.Deep.Fields
import Derived.ChangeSame
import Derived.OpenShut
import Derived.Lib.SmallJoins
import Derived.Test.YtbpkckahonmpkaaDoorCards
import Derived.Test.YtbpkckahonmpkaaDoorTie
import Derived.LaidHandle
import Derived.LaidLaws
import Derived.Stop.Joined
import Derived.JoinedOf
import Derived.Deep.DeepHandedRow
import Derived.SevenTiedAt
set_option linter.unusedVariables false
set_option linter.unusedSimpArgs false
namespace Go.Proofs.YtbpkckahonmpkaaDoor
open Go.RowKit
def oneS (made : Int) (c : Co) (g : Nat → Int) : Sta := ⟨made, fun k => if k = 0 then c else Co0, g⟩
theorem oneS_put (made : Int) (c d : Co) (g : Nat → Int) : (oneS made c g).put 0 d = oneS made d g := by
  unfold oneS Sta.put
  congr 1
  funext k
  show (if k = 0 then d else if k = 0 then c else Co0) = if k = 0 then d else Co0
  by_cases h : k = 0
  · rw [if_pos h, if_pos h]
  · rw [if_neg h, if_neg h, if_neg h]
theorem co0_may : mayB Co0 = true := by unfold mayB; simp [Co0, sameB]
theorem oneS_may {made : Int} {c : Co} {g : Nat → Int} (hc : mayB c = true) (hp : c.pid ≤ made) (h0 : 0 ≤ made) (h8 : made ≤ 8) (hg : ∀ j, -1 ≤ g j ∧ g j ≤ 1048576) : mayS (oneS made c g) = true := by
  refine (mayS_iff _).2 ⟨h0, h8, fun k hk => (okT_iff _ k).2 ?_, fun j _ => ?_⟩
  · by_cases h : k = 0
    · subst h
      exact ⟨hc, hp, fun j hj => absurd hj (Nat.not_lt_zero j)⟩
    · have e : (oneS made c g).tid k = Co0 := if_neg h
      rw [e]
      exact ⟨co0_may, h0, fun _ _ => .inl rfl⟩
  · show (decide (-1 ≤ g j) && decide (g j ≤ 1048576)) = true
    rw [decide_eq_true (hg j).1, decide_eq_true (hg j).2]; rfl
def we1 : Mt := ⟨1, 0, 5, Pd0, false, 0, Co0, 0⟩
def we2 : Mt := ⟨2, 0, 0, (1, 2, 9), false, 0, Co0, 0⟩
def we3 : Mt := ⟨3, 0, 0, Pd0, true, 0, Co0, 0⟩
def we4 : Mt := ⟨4, 0, 0, Pd0, false, 0, Co0, 0⟩
theorem we1_may : mayM we1 = true := by unfold mayM fitM bareM sameM sameB; simp [we1, Co0, Pd0]
theorem we2_may : mayM we2 = true := by unfold mayM fitM bareM sameM sameB; simp [we2, Co0, Pd0, pendB, partB]
theorem we3_may : mayM we3 = true := by unfold mayM fitM bareM sameM sameB; simp [we3, Co0, Pd0]
theorem we4_may : mayM we4 = true := by unfold mayM fitM bareM sameM sameB; simp [we4, Co0, Pd0]
def wc1 : Co := ⟨1, 1, 0, 5, 0, [], [], 0⟩
def wc2 : Co := ⟨2, 1, 0, 5, 0, [], [(1, 2, 9)], 0⟩
def wc3 : Co := ⟨3, 1, 0, 5, 0, [], [(1, 2, 9)], 0⟩
def wc4 : Co := ⟨5, 1, 0, 5, 0, [], [], 0⟩
theorem wc1_may : mayB wc1 = true := may_new 1 1 0 5 (.inl rfl) ⟨by decide, by decide⟩ ⟨by decide, by decide⟩ ⟨by decide, by decide⟩
theorem wc2_set : setE wc1 (1, 2, 9) = 0 ∧ setC wc1 (1, 2, 9) = wc2 := by
  have h : setE wc1 (1, 2, 9) = 0 := by
    unfold setE chkE
    rw [if_neg (by rw [wc1_may]; decide), if_neg (by decide)]
  exact ⟨h, (set_ok h).2⟩
theorem wc2_may : mayB wc2 = true := by rw [← wc2_set.2]; exact (set_ok wc2_set.1).1
theorem wc3_prep : prepE wc2 true 0 = 0 ∧ prepC wc2 true 0 = wc3 := by
  have h : prepE wc2 true 0 = 0 := by
    unfold prepE
    rw [if_neg (by simp), if_neg (by unfold chkE; rw [if_neg (by rw [wc2_may]; decide), if_neg (by decide)]; simp), if_neg (by simp)]
  refine ⟨h, ?_⟩
  unfold prepC
  rw [if_pos h]
  rfl
theorem wc3_may : mayB wc3 = true := by
  rw [← wc3_prep.2]
  exact (mv_fact (x := ⟨3, 0, 0, Pd0, true, []⟩) wc2_may (by unfold mvE; simpa using wc3_prep.1)).may
theorem wc4_comp : chkE wc3 3 true = 0 ∧ compC wc3 = wc4 := by
  have h : chkE wc3 3 true = 0 := by
    unfold chkE
    rw [if_neg (by rw [wc3_may]; decide), if_neg (by decide)]
  refine ⟨h, ?_⟩
  unfold compC
  rw [if_neg (by rw [h]; simp), if_neg (by decide), if_neg (by decide)]
  rfl
theorem wc4_may : mayB wc4 = true := may_new 5 1 0 5 (.inr (.inl rfl)) ⟨by decide, by decide⟩ ⟨by decide, by decide⟩ ⟨by decide, by decide⟩
def gr0 : Nat → Int := fun _ => -1
theorem gr0_ok : ∀ j, -1 ≤ gr0 j ∧ gr0 j ≤ 1048576 := fun _ => ⟨by unfold gr0; decide, by unfold gr0; decide⟩
theorem sta0_one : sta0 = oneS 0 Co0 gr0 := by
  unfold sta0 oneS gr0
  congr 1
  funext k
  split <;> rfl
theorem ws1 : nextE sta0 we1 = 0 ∧ nextS sta0 we1 = oneS 1 wc1 gr0 := by
  rw [sta0_one]
  have hs : mayS (oneS 0 Co0 gr0) = true := oneS_may co0_may (by decide) (by decide) (by decide) gr0_ok
  have h := next_f hs we1_may rfl (show ((oneS 0 Co0 gr0).tid 0).st = 0 from rfl)
  rw [if_neg (by decide), if_neg (by decide)] at h
  refine ⟨h.1, ?_⟩
  rw [h.2, (init_fresh (c := (oneS 0 Co0 gr0).tid we1.tid.toNat) co0_may rfl (n := (oneS 0 Co0 gr0).made + 1) (tm := we1.tm) (by decide) (by decide) (by decide) (by decide)).2]
  have := oneS_put 0 Co0 wc1 gr0
  show ({ (oneS 0 Co0 gr0).put 0 wc1 with made := 1 } : Sta) = _
  rw [this]; rfl
theorem ws_move {c d : Co} {m : Mt} (hc : mayB c = true) (hd : mayB d = true) (hm : mayM m = true) (ht : m.tid = 0) (hp : c.pid = 1) (hp2 : d.pid = 1) (g g2 : Nat → Int) (hg : ∀ j, -1 ≤ g j ∧ g j ≤ 1048576) (hg2 : ∀ j, -1 ≤ g2 j ∧ g2 j ≤ 1048576)
    (hk : ¬ (m.kd = 0 ∨ m.kd = 5 ∨ m.kd = 7)) (hf : ¬ (m.kd = 1 ∧ c.st = 0)) (he : moveE c m 1 = 0) (hdd : moveC c m 1 = d) (hpn : (oneS 1 c g).pends (if m.kd = 4 ∧ c.st = 3 then c.qs else []) = oneS 1 c g2) :
    nextE (oneS 1 c g) m = 0 ∧ nextS (oneS 1 c g) m = oneS 1 d g2 := by
  have hs : mayS (oneS 1 c g) = true := oneS_may hc (by omega) (by decide) (by decide) hg
  have htn : m.tid.toNat = 0 := by rw [ht]; rfl
  have h := next_m hs hm hk (by rw [htn]; exact hf)
  rw [htn] at h
  have e0 : (oneS 1 c g).tid 0 = c := rfl
  have em : (oneS 1 c g).made = 1 := rfl
  rw [e0, em, he, hdd, hpn, oneS_put] at h
  have hn : nextE (oneS 1 c g) m = 0 := by
    rw [h.1, h.2, if_neg (by simp), if_pos (oneS_may hd (by omega) (by decide) (by decide) hg2)]
  exact ⟨hn, by unfold nextS; rw [if_pos hn, h.2]⟩
theorem ws2 : nextE (oneS 1 wc1 gr0) we2 = 0 ∧ nextS (oneS 1 wc1 gr0) we2 = oneS 1 wc2 gr0 :=
  ws_move wc1_may wc2_may we2_may rfl rfl rfl gr0 gr0 gr0_ok gr0_ok (by decide) (by decide) wc2_set.1 wc2_set.2 rfl
theorem ws3 : nextE (oneS 1 wc2 gr0) we3 = 0 ∧ nextS (oneS 1 wc2 gr0) we3 = oneS 1 wc3 gr0 :=
  ws_move wc2_may wc3_may we3_may rfl rfl rfl gr0 gr0 gr0_ok gr0_ok (by decide) (by decide) wc3_prep.1 wc3_prep.2 rfl
def gr4 : Nat → Int := fun j => if j = 5 then 9 else gr0 j
theorem gr4_ok : ∀ j, -1 ≤ gr4 j ∧ gr4 j ≤ 1048576 := fun j => by
  unfold gr4
  split
  · exact ⟨by decide, by decide⟩
  · exact gr0_ok j
theorem ws4 : nextE (oneS 1 wc3 gr0) we4 = 0 ∧ nextS (oneS 1 wc3 gr0) we4 = oneS 1 wc4 gr4 :=
  ws_move wc3_may wc4_may we4_may rfl rfl rfl gr0 gr4 gr0_ok gr4_ok (by decide) (by decide) wc4_comp.1 wc4_comp.2 rfl
def wL : List MtM := [⟨we1, none, none, 0, 0⟩, ⟨we2, none, none, 0, 0⟩, ⟨we3, none, none, 0, 0⟩, ⟨we4, none, none, 0, 0⟩]
theorem wL_fold : foldM sta0 (wL.map (·.x)) 0 = (oneS 1 wc4 gr4, 4, 0) := by
  show foldM sta0 [we1, we2, we3, we4] 0 = _
  unfold foldM
  rw [if_pos ws1.1, ws1.2]
  unfold foldM
  rw [if_pos ws2.1, ws2.2]
  unfold foldM
  rw [if_pos ws3.1, ws3.2]
  unfold foldM
  rw [if_pos ws4.1, ws4.2]
  rfl
theorem wL_R (w : World) (B : Nat) : MtsR w B wL := by
  intro y hy
  unfold wL at hy
  simp only [List.mem_cons, List.not_mem_nil, or_false] at hy
  rcases hy with rfl | rfl | rfl | rfl <;> exact co0_R w B
section
attribute [-go_sem] loadCells storeVar
set_option maxRecDepth 100000 in
set_option maxHeartbeats 4000000 in
theorem of_1 (s : Sta) (a : Sad) (w : World) (hp : (s.tid 0).pid = 1) :
    Calls Tryd.prog 24 #[.agg (stX s a), .int .i64 1] w fun e w' => e = .returned (.tuple #[.int .i64 0, .bool true]) ∧ Below w.heap.size w w' := by
  obtain ⟨W0, hW0⟩ : ∃ W0, W0 = w.alloc (.cells (stX s a) 31) := ⟨_, rfl⟩
  have B0 : Below w.heap.size w W0 := by rw [hW0]; exact bal (Below.refl _ _) _
  have K1 : Blk W0 w.heap.size 31 (stX s a) := by rw [hW0]; exact Blk.new w 31 (stX s a)
  have HW := Lib.hid hW0
  have HB := Lib.hid B0
  have x1 := st_tids K1
  have ix := st_index0 s a W0
  obtain ⟨W2, st2, k2, b2, s2⟩ := bk_fresh (P := Tryd.prog) W0 26 #[.int .i8 0, .int .i64 0, .int .i64 0, .int .i64 0, .int .i64 0, .slice none 0 0, .slice none 0 0, .int .i64 0] #[.int .i8 (s.tid 0).st, .int .i64 (s.tid 0).pid, .int .i64 (s.tid 0).ep, .int .i64 (s.tid 0).tm, .int .i64 (s.tid 0).th, .slice (a.A 0) (s.tid 0).ps.length (a.c 0), .slice (a.D 0) (s.tid 0).qs.length (a.e 0), .int .i64 (s.tid 0).ag] 8 infoCoS rfl rfl (by simp [Value.oneCell'])
  have y1 : W2.cell? ⟨W0.heap.size, 1, none⟩ = some (.int .i64 1) := by rw [← hp]; exact k2.cell 1
  have B2 := Lib.hid (B0.trans (b2.mono B0.size))
  clear hW0 B0 K1 k2 b2 s2 hp
  go_enter Tryd.func24, Tryd.ntmps24
  go_upto_region 1 with (fail)
  rw [← HW.out]
  go_wp2_with fail
  go_loopg [10] 1 (fun mm y wq => y = .int .i64 0 ∧ mm = 1 ∧ wq = W0)
  case atStart => exact ⟨rfl, rfl, rfl⟩
  obtain ⟨rfl, hmm, rfl⟩ := hrel
  clear hmm
  go_wp2_with fail
  go_ret2
  exact ⟨rfl, B2.out⟩
set_option maxRecDepth 100000 in
set_option maxHeartbeats 4000000 in
theorem plain_1 (s : Sta) (a : Sad) (w : World) (hp : (s.tid 0).pid = 1) (hm : s.made = 1) :
    Calls Tryd.prog 25 #[.agg (stX s a), .int .i64 1] w fun e w' => e = .returned (.bool false) ∧ Below w.heap.size w w' := by
  obtain ⟨W0, hW0⟩ : ∃ W0, W0 = w.alloc (.cells (stX s a) 31) := ⟨_, rfl⟩
  have B0 : Below w.heap.size w W0 := by rw [hW0]; exact bal (Below.refl _ _) _
  have K1 : Blk W0 w.heap.size 31 (stX s a) := by rw [hW0]; exact Blk.new w 31 (stX s a)
  have HW := Lib.hid hW0
  have HB := Lib.hid B0
  have HK := Lib.hid K1
  have HM := Lib.hid hm
  have l1 := st_load K1
  have OF := Lib.hid (of_1 s a W0 hp)
  clear hW0 B0 K1 hp hm
  go_enter Tryd.func25, Tryd.ntmps25
  go_upto_region 1 with (fail)
  rw [← HW.out]
  go_wp2_with fail
  refine OF.out.mono ?_
  rintro e w1 ⟨rfl, b1⟩
  have xm : w1.cell? ⟨w.heap.size, 0, none⟩ = some (.int .i64 1) := by rw [← HM.out]; exact st_made (HK.out.below b1 HK.out.lt)
  have B1 := Lib.hid (HB.out.trans (b1.mono HB.out.size))
  clear b1 l1
  go_wp2_with fail
  go_ret
  exact ⟨rfl, B1.out⟩
section
attribute [-go_sem] Instr.build Instr.buildSlice
theorem wbs (W : World) : (Instr.buildSlice 44 4 #[(0, .agg (mtX we1 none none 0 0)), (1, .agg (mtX we2 none none 0 0)), (2, .agg (mtX we3 none none 0 0)), (3, .agg (mtX we4 none none 0 0))]).run Tryd.prog W = .ok (.slice (some ⟨W.heap.size, 0, none⟩) 4 4) (W.alloc (.cells (cellsE wL).toArray 35)) := by kernel_rfl
set_option maxRecDepth 100000 in
set_option maxHeartbeats 8000000 in
theorem wakes20 (w : World) (hg : HasET w) : Calls Tryd.prog 9 #[] w fun e w' => e = .returned (.bool true) ∧ Below w.heap.size w w' := by
  have bd1 : ∀ W, (Instr.build 35 #[(0, .int .i8 1), (2, .int .i64 5)]).run Tryd.prog W = .ok (.agg (mtX we1 none none 0 0)) W := fun W => run_build W 35 _ _ (by kernel_rfl)
  have bdp : ∀ W, (Instr.build 33 #[(0, .int .i64 1), (1, .int .i64 2), (2, .int .i64 9)]).run Tryd.prog W = .ok (.agg #[.int .i64 1, .int .i64 2, .int .i64 9]) W := fun W => run_build W 33 _ _ (by kernel_rfl)
  have bd2 : ∀ W, (Instr.build 35 #[(0, .int .i8 2), (3, .agg #[.int .i64 1, .int .i64 2, .int .i64 9])]).run Tryd.prog W = .ok (.agg (mtX we2 none none 0 0)) W := fun W => run_build W 35 _ _ (by kernel_rfl)
  have bd3 : ∀ W, (Instr.build 35 #[(0, .int .i8 3), (4, .bool true)]).run Tryd.prog W = .ok (.agg (mtX we3 none none 0 0)) W := fun W => run_build W 35 _ _ (by kernel_rfl)
  have bd4 : ∀ W, (Instr.build 35 #[(0, .int .i8 4)]).run Tryd.prog W = .ok (.agg (mtX we4 none none 0 0)) W := fun W => run_build W 35 _ _ (by kernel_rfl)
  have bs := fun W => wbs W
  obtain ⟨W1, hW1⟩ : ∃ W1, W1 = w.alloc (.cells (cellsE wL).toArray 35) := ⟨_, rfl⟩
  have B1 : Below w.heap.size w W1 := by rw [hW1]; exact bal (Below.refl _ _) _
  have k1 : Blk W1 w.heap.size 35 (cellsE wL).toArray := by rw [hW1]; exact Blk.new _ _ _
  have hr : Reads W1 W1.heap.size 17 (some ⟨w.heap.size, 0, none⟩) wL.length (cellsE wL) := ⟨by rw [length_cellsE], fun _ => ⟨_, rfl, k1.lt, fun j u hu => by
    rw [add_none, Nat.zero_add, k1.cell]
    simpa using hu⟩⟩
  have hf := mFold_any wL (some ⟨w.heap.size, 0, none⟩) 4 W1.heap.size W1 hr (Nat.le_refl _) (wL_R _ _) (by decide) (hg.up B1)
  unfold FoP at hf
  rw [wL_fold] at hf
  have FO := Lib.hid (show Calls Tryd.prog 20 #[.slice (some ⟨w.heap.size, 0, none⟩) 4 4] W1 fun e w' => ∃ a, e = .returned (.tuple #[.agg (stX (oneS 1 wc4 gr4) a), .int .i64 4, .int .i64 0]) ∧ StR w' w'.heap.size (oneS 1 wc4 gr4) a ∧ Below W1.heap.size W1 w' from hf)
  have HW1 := Lib.hid hW1
  have HB1 := Lib.hid B1
  clear hW1 B1 k1 hr hf hg
  go_enter Tryd.func9, Tryd.ntmps9
  go_wp2_with fail
  rw [← HW1.out]
  refine FO.out.mono ?_
  rintro e w2 ⟨a, rfl, r2, b2⟩
  obtain ⟨W3, st3, k3, b3, s3⟩ := bk_fresh (P := Tryd.prog) w2 31 #[.int .i64 0, .int .i8 0, .int .i64 0, .int .i64 0, .int .i64 0, .int .i64 0, .slice none 0 0, .slice none 0 0, .int .i64 0, .int .i8 0, .int .i64 0, .int .i64 0, .int .i64 0, .int .i64 0, .slice none 0 0, .slice none 0 0, .int .i64 0, .int .i8 0, .int .i64 0, .int .i64 0, .int .i64 0, .int .i64 0, .slice none 0 0, .slice none 0 0, .int .i64 0, .int .i64 0, .int .i64 0, .int .i64 0, .int .i64 0, .int .i64 0, .int .i64 0] (stX (oneS 1 wc4 gr4) a) 31 infoSta rfl (stX_size ..) (stX_one ..)
  have K3 := Lib.hid k3
  have B3 := Lib.hid (HB1.out.trans ((b2.trans (b3.mono b2.size)).mono HB1.out.size))
  have l3 := st_load k3
  have OF := Lib.hid (of_1 (oneS 1 wc4 gr4) a W3 rfl)
  clear k3 b3 s3 r2 b2 bd1 bdp bd2 bd3 bd4 bs
  go_wp2_with fail
  refine OF.out.mono ?_
  rintro e w4 ⟨rfl, b4⟩
  have k4 := K3.out.below b4 K3.out.lt
  have l4 := st_load k4
  have c0 : w4.cell? ⟨w2.heap.size, 0, none⟩ = some (.int .i64 1) := st_made k4
  have c30 : w4.cell? ⟨w2.heap.size, 25 + 1 * 3 + 2, none⟩ = some (.int .i64 9) := st_gr k4 5 (by decide)
  have c25 : w4.cell? ⟨w2.heap.size, 25, none⟩ = some (.int .i64 (-1)) := st_gr k4 0 (by decide)
  simp only [Nat.reduceMul, Nat.reduceAdd] at c30
  have PL := Lib.hid (plain_1 (oneS 1 wc4 gr4) a w4 rfl rfl)
  have B4 := Lib.hid (B3.out.trans (b4.mono B3.out.size))
  clear k4 b4 l3 st3
  go_wp2_with fail
  refine PL.out.mono ?_
  rintro e w5 ⟨rfl, b5⟩
  have B5 := Lib.hid (B4.out.trans (b5.mono B4.out.size))
  clear b5 l4 c0 c30 c25
  go_wp2_with fail
  go_ret
  exact ⟨rfl, B5.out⟩
end
end
end Go.Proofs.YtbpkckahonmpkaaDoor
namespace Go.Proofs.YtbpkckahonmpkaaDoor
open Go.RowKit
def grsB (s t : Sta) : Bool := ((s.gr 0 == t.gr 0) && ((s.gr 1 == t.gr 1) && (s.gr 2 == t.gr 2))) && ((s.gr 3 == t.gr 3) && ((s.gr 4 == t.gr 4) && (s.gr 5 == t.gr 5)))
def sameS (s t : Sta) : Bool := (List.range 3).all (fun k => sameB (s.tid k) (t.tid k)) && ((s.made == t.made) && grsB s t)
theorem eqR3 (d : Nat) (a0 a1 a2 b0 b1 b2 : Int) (w : World) : (Op.equalIn (d + 1 + 1) 28 (.agg #[.int .i64 a0, .int .i64 a1, .int .i64 a2]) (.agg #[.int .i64 b0, .int .i64 b1, .int .i64 b2])).run Tryd.prog w = .ok ((a0 == b0) && ((a1 == b1) && (a2 == b2))) w := by
  have u3 := Tryd.underlying3
  have a3 := Tryd.isAgg3
  have z3 := Tryd.sizeOf3
  rw [Op.equalIn]
  simp only [Sem.run_bind, run_underlying Tryd.underlying28, Result.andThen_ok]
  simp only [Std.Legacy.Range.forIn_eq_forIn_range', Std.Legacy.Range.size, Nat.sub_zero, Nat.add_sub_cancel, Nat.div_one, List.range'_succ, List.range'_zero, List.forIn_cons, List.forIn_nil]
  go_simp
  by_cases h1 : a0 = b0 <;> by_cases h2 : a1 = b1 <;> by_cases h3 : a2 = b2 <;> simp [h1, h2, h3]
theorem eqGr (s t : Sta) (w : World) : (Op.equalIn 10000 29 (.agg (grX s)) (.agg (grX t))).run Tryd.prog w = .ok (grsB s t) w := by
  have u3 := Tryd.underlying28
  have a3 := Tryd.isAgg28
  have z3 := Tryd.sizeOf28
  have e0 := fun W => eqR3 9997 (s.gr 0) (s.gr 1) (s.gr 2) (t.gr 0) (t.gr 1) (t.gr 2) W
  have e1 := fun W => eqR3 9997 (s.gr 3) (s.gr 4) (s.gr 5) (t.gr 3) (t.gr 4) (t.gr 5) W
  unfold grsB
  generalize ((s.gr 0 == t.gr 0) && ((s.gr 1 == t.gr 1) && (s.gr 2 == t.gr 2))) = u at e0 ⊢
  generalize ((s.gr 3 == t.gr 3) && ((s.gr 4 == t.gr 4) && (s.gr 5 == t.gr 5))) = v at e1 ⊢
  rw [show (10000 : Nat) = 9999 + 1 from rfl, Op.equalIn]
  simp only [Sem.run_bind, run_underlying Tryd.underlying29, Result.andThen_ok]
  simp only [Std.Legacy.Range.forIn_eq_forIn_range', Std.Legacy.Range.size, Nat.sub_zero, Nat.add_sub_cancel, Nat.div_one, List.range'_succ, List.range'_zero, List.forIn_cons, List.forIn_nil]
  unfold grX grL
  go_simp
  cases u <;> cases v <;> simp
section
attribute [-go_sem] loadCells storeVar
set_option maxRecDepth 100000 in
set_option maxHeartbeats 8000000 in
theorem rSameS_any (s t : Sta) (a c : Sad) (B1 B2 : Nat) (w : World) (h1 : StR w B1 s a) (h2 : StR w B2 t c) (hB1 : B1 ≤ w.heap.size) (hB2 : B2 ≤ w.heap.size) :
    Calls Tryd.prog 12 #[.agg (stX s a), .agg (stX t c)] w fun e w' => e = .returned (.bool (sameS s t)) ∧ Below w.heap.size w w' := by
  obtain ⟨W0, hW0⟩ : ∃ W0, W0 = (w.alloc (.cells (stX s a) 31)).alloc (.cells (stX t c) 31) := ⟨_, rfl⟩
  have s0 : W0.heap.size = w.heap.size + 1 + 1 := by rw [hW0]; simp
  have B0 : Below w.heap.size w W0 := by rw [hW0]; exact bal (bal (Below.refl _ _) _) _
  have K1 : Blk W0 w.heap.size 31 (stX s a) := by rw [hW0]; exact (Blk.new w 31 (stX s a)).alloc _
  have K2 : Blk W0 (w.heap.size + 1) 31 (stX t c) := by rw [hW0]; exact bk_new _ 31 (stX t c) (by simp)
  have HW := Lib.hid hW0
  have HB := Lib.hid B0
  have HK := Lib.hid K1
  have HK2 := Lib.hid K2
  have HBB := Lib.hid (And.intro hB1 hB2)
  have H := Lib.hid (And.intro h1 h2)
  clear hW0 s0 B0 K1 K2 h1 h2 hB1 hB2
  go_enter Tryd.func12, Tryd.ntmps12
  go_upto_region 1 with (fail)
  rw [← HW.out]
  go_wp2_with fail
  go_loopg [5] 3 (fun mm y wq => ∃ (k : Nat), k ≤ 3 ∧ y = .int .i64 k ∧ mm = 3 - k ∧ (∀ i, i < k → sameB (s.tid i) (t.tid i) = true) ∧ Below W0.heap.size W0 wq)
  case atStart => exact ⟨0, by omega, rfl, rfl, fun i hi => by omega, Below.refl _ _⟩
  case round =>
    obtain ⟨k, hk, rfl, hmm, hok, hbw⟩ := hrel
    have HMM := Lib.hid hmm
    have OK := Lib.hid hok
    have BW' := Lib.hid hbw
    have KW := Lib.hid (HK.out.below BW'.out HK.out.lt)
    have KV := Lib.hid (HK2.out.below BW'.out HK2.out.lt)
    have HBW := Lib.hid (HB.out.trans (BW'.out.mono HB.out.size))
    clear hmm hok hbw
    by_cases hlt : k < 3
    · have d3 : decide ((k : Int) < 3) = true := decide_eq_true (by omega)
      have i1 : (0 : Int) ≤ (k : Int) := by omega
      have i2 : (k : Int) < 3 := by omega
      obtain ⟨u, hu⟩ : ∃ u, sameB (s.tid k) (t.tid k) = u := ⟨_, rfl⟩
      have MY := Lib.hid (fun W (hW : Below wr.heap.size wr W) => show Calls Tryd.prog 22 #[(.agg #[.int .i8 (s.tid k).st, .int .i64 (s.tid k).pid, .int .i64 (s.tid k).ep, .int .i64 (s.tid k).tm, .int .i64 (s.tid k).th, .slice (a.A k) (s.tid k).ps.length (a.c k), .slice (a.D k) (s.tid k).qs.length (a.e k), .int .i64 (s.tid k).ag]), (.agg #[.int .i8 (t.tid k).st, .int .i64 (t.tid k).pid, .int .i64 (t.tid k).ep, .int .i64 (t.tid k).tm, .int .i64 (t.tid k).th, .slice (c.A k) (t.tid k).ps.length (c.c k), .slice (c.D k) (t.tid k).qs.length (c.e k), .int .i64 (t.tid k).ag])] W fun e w' => e = .returned (.bool u) ∧ Below W.heap.size W w' from by
        rw [← hu]
        exact rSame_any (s.tid k) (t.tid k) (a.A k) (a.D k) (a.c k) (a.e k) (c.A k) (c.D k) (c.c k) (c.e k) B1 B2 W ((H.out.1 k hlt).below ((HBW.out.trans (hW.mono HBW.out.size)).mono HBB.out.1)) ((H.out.2 k hlt).below ((HBW.out.trans (hW.mono HBW.out.size)).mono HBB.out.2)) (by have := HBB.out.1; have := HBW.out.size; have := hW.size; omega) (by have := HBB.out.2; have := HBW.out.size; have := hW.size; omega))
      have lk := fun n : BW wr.heap.size wr => st_tid (KW.out.below n.2 KW.out.lt) k hlt
      have lj := fun n : BW wr.heap.size wr => st_tid (KV.out.below n.2 KV.out.lt) k hlt
      have HU := Lib.hid hu
      clear hu
      go_wp2_with fail
      refine wp_region_bq wr.heap.size (by kernel_rfl) (by kernel_rfl) ?_
      repeat (go_big_quiet_step ((go_at_call 22; exact bw_call (Nat.le_refl _) (MY.out _ (by exact Subtype.property _)))))
      refine wpQuiet_nil ?_
      rintro _ ⟨n, rfl⟩
      have BN := Lib.hid n.2
      clear lk lj
      cases u
      · have HNO := Lib.hid (show sameS s t = false by
          cases hx : sameS s t
          · rfl
          · unfold sameS at hx
            simp only [Bool.and_eq_true, List.all_eq_true, List.mem_range] at hx
            have := hx.1 k hlt
            rw [HU.out] at this; cases this)
        go_wp2_with fail
        go_ret
        rw [HNO.out]
        exact ⟨rfl, HBW.out.trans (BN.out.mono HBW.out.size)⟩
      · go_wp2_with fail
        go_roundg (gk - 1)
        case measure => have := HMM.out; omega
        case rel =>
          refine ⟨k + 1, by omega, by go_num, by have := HMM.out; omega, fun i hi => ?_, BW'.out.trans (BN.out.mono BW'.out.size)⟩
          rcases Nat.lt_succ_iff_lt_or_eq.1 hi with h | h
          · exact OK.out i h
          · rw [h]; exact HU.out
    · obtain rfl : k = 3 := by omega
      have d3 : decide (((3 : Nat) : Int) < 3) = false := by decide
      have x0 := st_made KW.out
      have y0 := st_made KV.out
      have x2 := st_grs KW.out
      have y2 := st_grs KV.out
      have eg := fun W => eqGr s t W
      obtain ⟨u, hu⟩ : ∃ u, (s.made == t.made) = u := ⟨_, rfl⟩
      obtain ⟨v, hv⟩ : ∃ v, grsB s t = v := ⟨_, rfl⟩
      have HS := Lib.hid (show sameS s t = (u && v) by
        unfold sameS
        rw [hu, hv, List.all_eq_true.2 (fun i hi => OK.out i (List.mem_range.1 hi)), Bool.true_and])
      rw [hv] at eg
      clear hv
      cases u
      · go_wp2_with fail
        go_ret
        rw [HS.out]
        exact ⟨rfl, HBW.out⟩
      · go_wp2_with fail
        go_ret
        rw [HS.out]
        exact ⟨rfl, HBW.out⟩
end
end Go.Proofs.YtbpkckahonmpkaaDoor
namespace Go.Proofs.YtbpkckahonmpkaaDoor
open Go.RowKit
theorem sameB_refl (c : Co) : sameB c c = true := by unfold sameB; simp
section
attribute [-go_sem] loadCells storeVar Instr.build
end
end Go.Proofs.YtbpkckahonmpkaaDoor
namespace Go.Proofs.YtbpkckahonmpkaaDoor
open Go.RowKit
theorem sameS_refl (s : Sta) : sameS s s = true := by
  unfold sameS grsB
  simp [sameB_refl]
/-- A state as it is handed in: its lists, however long. -/
def StRaw (w : World) (s : Sta) (a : Sad) : Prop := ∀ k, k < 3 → Reads w w.heap.size 1 (a.A k) (s.tid k).ps.length (cellsI .i64 (s.tid k).ps) ∧ Reads w w.heap.size 3 (a.D k) (s.tid k).qs.length (cellsP (s.tid k).qs) ∧ -128 ≤ (s.tid k).st ∧ (s.tid k).st ≤ 127
theorem StRaw.num {w : World} {s : Sta} {a : Sad} (h : StRaw w s a) : StB s := fun k hk => (h k hk).2.2
end Go.Proofs.YtbpkckahonmpkaaDoor
namespace Go.Proofs.YtbpkckahonmpkaaDoor
open Go.RowKit
def MtRaw (w : World) (m : Mt) (A D : Option Addr) : Prop := Reads w w.heap.size 1 A m.c.ps.length (cellsI .i64 m.c.ps) ∧ Reads w w.heap.size 3 D m.c.qs.length (cellsP m.c.qs) ∧ -128 ≤ m.c.st ∧ m.c.st ≤ 127
theorem MtRaw.co {w : World} {m : Mt} {A D : Option Addr} (h : MtRaw w m A D) (hb : bigT m.c = false) : CoR w w.heap.size m.c A D := by
  unfold bigT at hb
  simp only [Bool.or_eq_false_iff, decide_eq_false_iff_not, Nat.not_lt] at hb
  exact ⟨h.1, h.2.1, by omega, by omega⟩
theorem StRaw.st {w : World} {s : Sta} {a : Sad} (h : StRaw w s a) (hb : bigS s = false) : StR w w.heap.size s a := fun k hk => by
  have := bigS_no hb k hk
  exact ⟨(h k hk).1, (h k hk).2.1, by omega, by omega⟩
section
attribute [-go_sem] loadCells storeVar
set_option maxRecDepth 100000 in
set_option maxHeartbeats 4000000 in
theorem rGreat20_any (s : Sta) (a : Sad) (w : World) :
    Calls Tryd.prog 7 #[.agg (stX s a)] w fun e w' => e = .returned (.bool (bigS s)) ∧ Below w.heap.size w w' := by
  obtain ⟨W0, hW0⟩ : ∃ W0, W0 = w.alloc (.cells (stX s a) 31) := ⟨_, rfl⟩
  have B0 : Below w.heap.size w W0 := by rw [hW0]; exact bal (Below.refl _ _) _
  have K1 : Blk W0 w.heap.size 31 (stX s a) := by rw [hW0]; exact Blk.new w 31 (stX s a)
  have HW := Lib.hid hW0
  have HB := Lib.hid B0
  have HK := Lib.hid K1
  clear hW0 B0 K1
  go_enter Tryd.func7, Tryd.ntmps7
  go_upto_region 1 with (fail)
  rw [← HW.out]
  go_wp2_with fail
  go_loopg [3] 3 (fun mm y wq => ∃ (k : Nat), k ≤ 3 ∧ y = .int .i64 k ∧ mm = 3 - k ∧ (∀ i, i < k → bigT (s.tid i) = false) ∧ Below W0.heap.size W0 wq)
  case atStart => exact ⟨0, by omega, rfl, rfl, fun i hi => by omega, Below.refl _ _⟩
  case round =>
    obtain ⟨k, hk, rfl, hmm, hok, hbw⟩ := hrel
    have HMM := Lib.hid hmm
    have OK := Lib.hid hok
    have BW' := Lib.hid hbw
    clear hmm hok hbw
    by_cases hlt : k < 3
    · have d3 : decide ((k : Int) < 3) = true := decide_eq_true (by omega)
      have i1 : (0 : Int) ≤ (k : Int) := by omega
      have i2 : (k : Int) < 3 := by omega
      have lt1 := st_tid (HK.out.below BW'.out HK.out.lt) k hlt
      have GA := Lib.hid (Great_any (s.tid k) (a.A k) (a.D k) (a.c k) (a.e k) wr)
      obtain ⟨u, hu⟩ : ∃ u, bigB (s.tid k) = u := ⟨_, rfl⟩
      rw [hu] at GA
      have HU := Lib.hid (show bigT (s.tid k) = u from hu)
      clear hu
      go_wp2_with fail
      refine GA.out.mono ?_
      rintro e w3 ⟨rfl, b3⟩
      have B3 := Lib.hid (BW'.out.trans (b3.mono BW'.out.size))
      clear b3 lt1
      cases u
      · go_wp2_with fail
        go_roundg (gk - 1)
        case measure => have := HMM.out; omega
        case rel =>
          refine ⟨k + 1, by omega, by go_num, by have := HMM.out; omega, fun i hi => ?_, B3.out⟩
          rcases Nat.lt_succ_iff_lt_or_eq.1 hi with h | h
          · exact OK.out i h
          · rw [h, HU.out]
      · have HY := Lib.hid (show bigS s = true by
          unfold bigS
          rw [List.any_eq_true]
          exact ⟨k, List.mem_range.2 hlt, HU.out⟩)
        go_wp2_with fail
        go_ret
        rw [HY.out]
        exact ⟨rfl, HB.out.trans (B3.out.mono HB.out.size)⟩
    · obtain rfl : k = 3 := by omega
      have d3 : decide (((3 : Nat) : Int) < 3) = false := by decide
      have HN := Lib.hid (show bigS s = false by
        unfold bigS
        rw [List.any_eq_false]
        exact fun i hi => by rw [OK.out i (List.mem_range.1 hi)]; decide)
      go_wp2_with fail
      go_ret
      rw [HN.out]
      exact ⟨rfl, HB.out.trans (BW'.out.mono HB.out.size)⟩
set_option maxRecDepth 100000 in
set_option maxHeartbeats 4000000 in
theorem rGreat19_any (m : Mt) (A D : Option Addr) (c e : Nat) (w : World) :
    Calls Tryd.prog 8 #[.agg (mtX m A D c e)] w fun e w' => e = .returned (.bool (bigT m.c)) ∧ Below w.heap.size w w' := by
  obtain ⟨W0, hW0⟩ : ∃ W0, W0 = w.alloc (.cells (mtX m A D c e) 35) := ⟨_, rfl⟩
  have B0 : Below w.heap.size w W0 := by rw [hW0]; exact bal (Below.refl _ _) _
  have K1 : Blk W0 w.heap.size 35 (mtX m A D c e) := by rw [hW0]; exact Blk.new w 35 _
  have HW := Lib.hid hW0
  have HB := Lib.hid B0
  have y5 := mt_cell K1 (j := 13) rfl
  have y6 := mt_cell K1 (j := 14) rfl
  obtain ⟨u, hu⟩ : ∃ u, decide ((40 : Int) < (m.c.ps.length : Int)) = u := ⟨_, rfl⟩
  obtain ⟨v, hv⟩ : ∃ v, decide ((40 : Int) < (m.c.qs.length : Int)) = v := ⟨_, rfl⟩
  have HN := Lib.hid (show bigT m.c = (u || v) by
    unfold bigT
    rw [← hu, ← hv]
    congr 1
    · exact decide_eq_decide.2 (by omega)
    · exact decide_eq_decide.2 (by omega))
  clear hW0 B0 K1
  cases u
  · cases v
    · go_enter Tryd.func8, Tryd.ntmps8
      go_upto_region 1 with (fail)
      rw [← HW.out]
      go_wp2_with fail
      go_ret
      rw [HN.out]
      exact ⟨rfl, HB.out⟩
    · go_enter Tryd.func8, Tryd.ntmps8
      go_upto_region 1 with (fail)
      rw [← HW.out]
      go_wp2_with fail
      go_ret
      rw [HN.out]
      exact ⟨rfl, HB.out⟩
  · go_enter Tryd.func8, Tryd.ntmps8
    go_upto_region 1 with (fail)
    rw [← HW.out]
    go_wp2_with fail
    go_ret
    rw [HN.out]
    exact ⟨by simp, HB.out⟩
set_option maxRecDepth 100000 in
set_option maxHeartbeats 8000000 in
theorem mnext_walk (s : Sta) (a : Sad) (m : Mt) (A1 D1 : Option Addr) (c1 e1 : Nat) (w : World) (hg : HasET w) (h : StRaw w s a) (hm : MtRaw w m A1 D1) :
    Calls Tryd.prog 3 #[.agg (stX s a), .agg (mtX m A1 D1 c1 e1)] w fun e w' => e = .returned (.bool true) ∧ Below w.heap.size w w' := by
  obtain ⟨W0, hW0⟩ : ∃ W0, W0 = (w.alloc (.cells (stX s a) 31)).alloc (.cells (mtX m A1 D1 c1 e1) 35) := ⟨_, rfl⟩
  have B0 : Below w.heap.size w W0 := by rw [hW0]; exact bal (bal (Below.refl _ _) _) _
  have K1 : Blk W0 w.heap.size 31 (stX s a) := by rw [hW0]; exact (Blk.new w 31 (stX s a)).alloc _
  have K2 : Blk W0 (w.heap.size + 1) 35 (mtX m A1 D1 c1 e1) := by rw [hW0]; exact bk_new _ 35 _ (by simp)
  have HW := Lib.hid hW0
  have HB := Lib.hid B0
  have HK1 := Lib.hid K1
  have HK2 := Lib.hid K2
  have HG := Lib.hid hg
  have H := Lib.hid h
  have HM := Lib.hid hm
  have l1 := st_load K1
  have G1 := Lib.hid (rGreat20_any s a W0)
  clear hW0 B0 K1 K2 hg h hm
  cases hb1 : bigS s
  · rw [hb1] at G1
    have HS := Lib.hid hb1
    clear hb1
    cases hb2 : bigT m.c
    · have HT := Lib.hid hb2
      clear hb2
      go_enter Tryd.func3, Tryd.ntmps3
      go_upto_region 1 with (fail)
      rw [← HW.out]
      go_wp2_with fail
      refine G1.out.mono ?_
      rintro e w1 ⟨rfl, b1⟩
      have B1 := Lib.hid (HB.out.trans (b1.mono HB.out.size))
      have KS1 := Lib.hid (HK1.out.below b1 HK1.out.lt)
      have KM1 := Lib.hid (HK2.out.below b1 HK2.out.lt)
      have l2 := mt_load (P := Tryd.prog) KM1.out
      have G2 := Lib.hid (rGreat19_any m A1 D1 c1 e1 w1)
      rw [HT.out] at G2
      clear b1 l1
      go_wp2_with fail
      refine G2.out.mono ?_
      rintro e w2 ⟨rfl, b2⟩
      have B2 := Lib.hid (B1.out.trans (b2.mono B1.out.size))
      have KS2 := Lib.hid (KS1.out.below b2 KS1.out.lt)
      have KM2 := Lib.hid (KM1.out.below b2 KM1.out.lt)
      have l3 := st_load KS2.out
      have l4 := mt_load (P := Tryd.prog) KM2.out
      have S0 := Lib.hid (H.out.st HS.out)
      have C0 := Lib.hid (HM.out.co HT.out)
      have N1 := Lib.hid (mNext_any s a m A1 D1 c1 e1 w2.heap.size w2 (S0.out.up B2.out) (C0.out.up B2.out) (Nat.le_refl _) (HG.out.up B2.out))
      clear b2 l2
      go_wp2_with fail
      refine N1.out.mono ?_
      rintro e w3 ⟨a3, rfl, r3, b3, n3⟩
      obtain ⟨W4, st4, k4, b4, s4⟩ := bk_fresh (P := Tryd.prog) w3 31 #[.int .i64 0, .int .i8 0, .int .i64 0, .int .i64 0, .int .i64 0, .int .i64 0, .slice none 0 0, .slice none 0 0, .int .i64 0, .int .i8 0, .int .i64 0, .int .i64 0, .int .i64 0, .int .i64 0, .slice none 0 0, .slice none 0 0, .int .i64 0, .int .i8 0, .int .i64 0, .int .i64 0, .int .i64 0, .int .i64 0, .slice none 0 0, .slice none 0 0, .int .i64 0, .int .i64 0, .int .i64 0, .int .i64 0, .int .i64 0, .int .i64 0, .int .i64 0] (stX (nextS s m) a3) 31 infoSta rfl (stX_size ..) (stX_one ..)
      have bb := b3.trans (b4.mono b3.size)
      have B4 := Lib.hid (B2.out.trans (bb.mono B2.out.size))
      have R4 := Lib.hid (show StR W4 W4.heap.size (nextS s m) a3 from r3.up b4)
      have KA := Lib.hid k4
      have KS4 := Lib.hid (KS2.out.below bb KS2.out.lt)
      have KM4 := Lib.hid (KM2.out.below bb KM2.out.lt)
      have l5 := st_load KS4.out
      have l6 := mt_load (P := Tryd.prog) KM4.out
      have N2 := Lib.hid (rNext_any s a m A1 D1 c1 e1 W4 (S0.out.up B4.out) (C0.out.up B4.out) H.out.num HM.out.2.2.1 HM.out.2.2.2)
      clear r3 b3 n3 k4 b4 s4 bb l3 l4
      go_wp2_with fail
      refine N2.out.mono ?_
      rintro e w5 ⟨a5, rfl, r5, b5, _⟩
      obtain ⟨W6, st6, k6, b6, s6⟩ := bk_fresh (P := Tryd.prog) w5 31 #[.int .i64 0, .int .i8 0, .int .i64 0, .int .i64 0, .int .i64 0, .int .i64 0, .slice none 0 0, .slice none 0 0, .int .i64 0, .int .i8 0, .int .i64 0, .int .i64 0, .int .i64 0, .int .i64 0, .slice none 0 0, .slice none 0 0, .int .i64 0, .int .i8 0, .int .i64 0, .int .i64 0, .int .i64 0, .int .i64 0, .slice none 0 0, .slice none 0 0, .int .i64 0, .int .i64 0, .int .i64 0, .int .i64 0, .int .i64 0, .int .i64 0, .int .i64 0] (stX (nextS s m) a5) 31 infoSta rfl (stX_size ..) (stX_one ..)
      have bb := b5.trans (b6.mono b5.size)
      have B6 := Lib.hid (B4.out.trans (bb.mono B4.out.size))
      have l7 := st_load (KA.out.below bb KA.out.lt)
      have l8 := st_load k6
      have SM := Lib.hid (rSameS_any (nextS s m) (nextS s m) a3 a5 W6.heap.size W6.heap.size W6 (R4.out.up bb) (r5.up b6) (Nat.le_refl _) (Nat.le_refl _))
      rw [sameS_refl] at SM
      obtain ⟨n, hn⟩ : ∃ n, nextE s m = n := ⟨_, rfl⟩
      rw [hn]
      have dn : (n == n) = true := by simp
      clear r5 b5 k6 b6 s6 bb l5 l6 st4 hn
      go_wp2_with fail
      refine SM.out.mono ?_
      rintro e w7 ⟨rfl, b7⟩
      have B7 := Lib.hid (B6.out.trans (b7.mono B6.out.size))
      have WK := Lib.hid (wakes20 w7 (HG.out.up B7.out))
      clear b7 l7 l8 st6
      go_wp2_with fail
      refine WK.out.mono ?_
      rintro e w8 ⟨rfl, b8⟩
      have B8 := Lib.hid (B7.out.trans (b8.mono B7.out.size))
      clear b8
      go_wp2_with fail
      go_ret
      exact ⟨rfl, B8.out⟩
    · have HT := Lib.hid hb2
      clear hb2
      go_enter Tryd.func3, Tryd.ntmps3
      go_upto_region 1 with (fail)
      rw [← HW.out]
      go_wp2_with fail
      refine G1.out.mono ?_
      rintro e w1 ⟨rfl, b1⟩
      have B1 := Lib.hid (HB.out.trans (b1.mono HB.out.size))
      have l2 := mt_load (P := Tryd.prog) (HK2.out.below b1 HK2.out.lt)
      have G2 := Lib.hid (rGreat19_any m A1 D1 c1 e1 w1)
      rw [HT.out] at G2
      clear b1 l1
      go_wp2_with fail
      refine G2.out.mono ?_
      rintro e w2 ⟨rfl, b2⟩
      have B2 := Lib.hid (B1.out.trans (b2.mono B1.out.size))
      have WK := Lib.hid (wakes20 w2 (HG.out.up B2.out))
      clear b2 l2
      go_wp2_with fail
      refine WK.out.mono ?_
      rintro e w8 ⟨rfl, b8⟩
      have B8 := Lib.hid (B2.out.trans (b8.mono B2.out.size))
      clear b8
      go_wp2_with fail
      go_ret
      exact ⟨rfl, B8.out⟩
  · rw [hb1] at G1
    clear hb1
    go_enter Tryd.func3, Tryd.ntmps3
    go_upto_region 1 with (fail)
    rw [← HW.out]
    go_wp2_with fail
    refine G1.out.mono ?_
    rintro e w1 ⟨rfl, b1⟩
    have B1 := Lib.hid (HB.out.trans (b1.mono HB.out.size))
    have WK := Lib.hid (wakes20 w1 (HG.out.up B1.out))
    clear b1 l1
    go_wp2_with fail
    refine WK.out.mono ?_
    rintro e w8 ⟨rfl, b8⟩
    have B8 := Lib.hid (B1.out.trans (b8.mono B1.out.size))
    clear b8
    go_wp2_with fail
    go_ret
    exact ⟨rfl, B8.out⟩
end
end Go.Proofs.YtbpkckahonmpkaaDoor
namespace Go.Proofs.YtbpkckahonmpkaaDoor
open Go.Joins Go.ChangeShapes Go.WideShapes Go.RowKit Go.Deep

section
variable {H : Type} {enc : TypeId × Value → H} {P : Program} {w : World} {base : Nat} {spare : Nat → Bool} {held : Bool}
theorem open_slice_fields {t e : TypeId} {fs : Array Field} {fuel : Nat} {cs : List Value} {x : DataW H × List MemPlace} (ht : P.underlying t = some (.slice e)) (he : P.underlying e = some (.struct fs))
    (hone : oneCellFields P fs = true) (hC : P.cellsOf e = fs.size) (h : DataW.trod enc P w base spare held fuel t cs = some x) :
    (cs = [.slice none 0 0] ∧ x = (.nil, [])) ∨
    ∃ (a : Addr) (len cap m : Nat) (D : Nat → DataW H) (Pl : Nat → List MemPlace), cs = [.slice (some a) len cap] ∧ base ≤ a.block ∧ len ≤ cap ∧ cap ≤ maxLen ∧ m = (if spare a.block then cap else len) ∧
      x = (.slice ((List.range len).map D) ((List.range (m - len)).map fun j => D (len + j)), MemPlace.row a (m * fs.size) ++ (List.range m).flatMap Pl) ∧
      ∀ i, i < m → ∃ (ys : List (DataW H × List MemPlace)) (n : Nat), D i = .agg (ys.map (·.1)) ∧ Pl i = ys.flatMap (·.2) ∧ ys.length = fs.size ∧
        ∀ (j : Nat) (f : Field), fs[j]? = some f → ∃ (v : Value) (y : DataW H × List MemPlace), w.cell? (a.add (i * fs.size + j)) = some v ∧ ys[j]? = some y ∧ DataW.trod enc P w base spare held n f.type [v] = some y := by
  rcases open_slice ht h with h0 | ⟨a, len, cap, m, n, D, Pl, hcs, hb, hl, hm, hmm, hx, hi⟩
  · exact .inl h0
  · refine .inr ⟨a, len, cap, m, D, Pl, hcs, hb, hl, hm, hmm, by rw [hC] at hx; exact hx, fun i him => ?_⟩
    obtain ⟨cs', hc, ht'⟩ := hi i him
    rw [hC] at hc
    obtain ⟨ys, n', hn', hy, hlen, hyl, hf⟩ := DataW.trod_struct he ht'
    obtain ⟨_, hcl, hat⟩ := World.cells?_some hc
    simp only [Prod.mk.injEq] at hy
    refine ⟨ys, n', hy.1, hy.2, hyl, fun j f hj => ?_⟩
    obtain ⟨ho, hk⟩ := hone_of hone j f hj
    have hjl : j < fs.size := (Array.getElem?_eq_some_iff.1 hj).1
    have hcell := hat j hjl
    have hv : cs'[j]? = some (cs'[j]'(by omega)) := List.getElem?_eq_getElem (by omega)
    have h1 := hf j f hj
    rw [ho, hk] at h1
    have hone' : (cs'.drop j).take 1 = [cs'[j]'(by omega)] := by
      rw [List.drop_eq_getElem_cons (by omega)]
      rfl
    rw [hone'] at h1
    have hys : ys[j]? = some (ys[j]'(by omega)) := List.getElem?_eq_getElem (by omega)
    refine ⟨_, _, ?_, hys, h1.trans hys⟩
    rw [← Go.Deep.add_add, hcell, hv]
end

section
variable {H : Type} {enc : TypeId × Value → H} {W : World}
theorem cell_block {a : Addr} {k : Nat} {v : Value} (h : W.cell? (a.add k) = some v) : a.block < W.heap.size := by
  have := block_lt_of_cell h
  rwa [block_of_add] at this
theorem field_ints {fuel : Nat} {v : Value} {x : DataW H × List MemPlace} (h : DataW.trod enc Tryd.prog W 0 (fun _ => true) true fuel 23 [v] = some x) :
    ∃ (A : Option Addr) (c : Nat) (l : List Int), v = .slice A l.length c ∧ l.length ≤ c ∧ Reads W W.heap.size 1 A l.length (cellsI .i64 l) := by
  rcases open_ints Tryd.underlying23 Tryd.underlying3 (by kernel_rfl) h with ⟨hcs, _⟩ | ⟨a, len, cap, zs, hcs, _, hl, hm, hz, hx, hcell, hwz⟩
  · simp at hcs
    subst hcs
    exact ⟨none, 0, [], rfl, Nat.le_refl _, Reads.none_⟩
  · simp at hcs
    subst hcs
    simp only [if_true] at hz
    have hlen : (zs.take len).length = len := by rw [List.length_take]; omega
    refine ⟨some a, cap, zs.take len, by rw [hlen], by omega, by rw [length_cellsI]; omega, fun hn => ⟨a, rfl, cell_block (hcell 0 (by omega)), fun j u hu => ?_⟩⟩
    rw [getElem?_cellsI, Option.map_eq_some_iff] at hu
    obtain ⟨s, hs, rfl⟩ := hu
    have hj : j < len := by
      have := (List.getElem?_eq_some_iff.1 hs).1
      omega
    rw [List.getElem?_take_of_lt hj] at hs
    rw [hcell j (by omega)]
    simp [hs]
theorem cellsP_get : ∀ (l : List Pd) (j : Nat) (u : Value), (cellsP l)[j]? = some u → ∃ i k p, j = i * 3 + k ∧ k < 3 ∧ l[i]? = some p ∧ u = (if k = 0 then .int .i64 p.1 else if k = 1 then .int .i64 p.2.1 else .int .i64 p.2.2) := by
  intro l j u hu
  have hj : j < l.length * 3 := by
    have := (List.getElem?_eq_some_iff.1 hu).1
    rwa [length_cellsP] at this
  have hi : j / 3 < l.length := by omega
  obtain ⟨p, hp⟩ : ∃ p, l[j / 3]? = some p := ⟨_, List.getElem?_eq_getElem hi⟩
  obtain ⟨h0, h1, h2⟩ := cellsP_at l (j / 3) p hp
  refine ⟨j / 3, j % 3, p, by omega, by omega, hp, ?_⟩
  have hk : j % 3 = 0 ∨ j % 3 = 1 ∨ j % 3 = 2 := by omega
  rcases hk with hk | hk | hk
  · rw [show j = j / 3 * 3 by omega, h0] at hu
    rw [if_pos hk]
    exact (Option.some.inj hu).symm
  · rw [show j = j / 3 * 3 + 1 by omega, h1] at hu
    rw [if_neg (by omega), if_pos hk]
    exact (Option.some.inj hu).symm
  · rw [show j = j / 3 * 3 + 2 by omega, h2] at hu
    rw [if_neg (by omega), if_neg (by omega)]
    exact (Option.some.inj hu).symm
theorem field_pends {fuel : Nat} {v : Value} {x : DataW H × List MemPlace} (h : DataW.trod enc Tryd.prog W 0 (fun _ => true) true fuel 24 [v] = some x) :
    ∃ (A : Option Addr) (c : Nat) (l : List Pd), v = .slice A l.length c ∧ l.length ≤ c ∧ Reads W W.heap.size 3 A l.length (cellsP l) := by
  rcases open_slice_fields Tryd.underlying24 Tryd.underlying33 (by kernel_rfl) (by kernel_rfl) h with ⟨hcs, _⟩ | ⟨a, len, cap, m, D, Pl, hcs, _, hl, hm, hmm, hx, hi⟩
  · simp at hcs
    subst hcs
    exact ⟨none, 0, [], rfl, Nat.le_refl _, Reads.none_⟩
  · simp at hcs
    subst hcs
    simp only [if_true] at hmm
    subst hmm
    have hp : ∀ i, ∃ p : Pd, i < len → W.cell? (a.add (i * 3 + 0)) = some (.int .i64 p.1) ∧ W.cell? (a.add (i * 3 + 1)) = some (.int .i64 p.2.1) ∧ W.cell? (a.add (i * 3 + 2)) = some (.int .i64 p.2.2) := by
      intro i
      by_cases hlt : i < len
      · obtain ⟨ys, n, _, _, _, hf⟩ := hi i (by omega)
        obtain ⟨v0, y0, hc0, _, t0⟩ := hf 0 _ rfl
        obtain ⟨v1, y1, hc1, _, t1⟩ := hf 1 _ rfl
        obtain ⟨v2, y2, hc2, _, t2⟩ := hf 2 _ rfl
        obtain ⟨z0, e0, _, _⟩ := DataW.trod_int Tryd.underlying3 t0
        obtain ⟨z1, e1, _, _⟩ := DataW.trod_int Tryd.underlying3 t1
        obtain ⟨z2, e2, _, _⟩ := DataW.trod_int Tryd.underlying3 t2
        simp at e0 e1 e2
        subst e0; subst e1; subst e2
        exact ⟨(z0, z1, z2), fun _ => ⟨hc0, hc1, hc2⟩⟩
      · exact ⟨(0, 0, 0), fun h => absurd h hlt⟩
    refine ⟨some a, m, (List.range len).map fun i => Classical.choose (hp i), by simp, by simpa using hl, by rw [length_cellsP], fun hn => ⟨a, rfl, ?_, fun j u hu => ?_⟩⟩
    · simp at hn
      exact cell_block (Classical.choose_spec (hp 0) hn).1
    · obtain ⟨i, k, p, rfl, hk, hpi, rfl⟩ := cellsP_get _ j u hu
      rw [List.getElem?_map, Option.map_eq_some_iff] at hpi
      obtain ⟨i', hi', rfl⟩ := hpi
      have hlt : i < len := by
        have := (List.getElem?_eq_some_iff.1 hi').1
        simpa using this
      rw [List.getElem?_range hlt] at hi'
      obtain rfl : i = i' := by simpa using hi'
      obtain ⟨q0, q1, q2⟩ := Classical.choose_spec (hp i) hlt
      have hk3 : k = 0 ∨ k = 1 ∨ k = 2 := by omega
      rcases hk3 with rfl | rfl | rfl
      · exact q0
      · exact q1
      · exact q2

end
end Go.Proofs.YtbpkckahonmpkaaDoor
namespace Go.Proofs.YtbpkckahonmpkaaDoor
open Go.Joins Go.ChangeShapes Go.WideShapes Go.RowKit Go.Deep
section
variable {H : Type} {enc : TypeId × Value → H} {W : World}
set_option maxRecDepth 100000 in
theorem trod_coS {fuel : Nat} {cs : List Value} {x : DataW H × List MemPlace} (h : DataW.trod enc Tryd.prog W 0 (fun _ => true) true fuel 26 cs = some x) :
    ∃ (c : Co) (A D : Option Addr) (n m : Nat), cs = coL c A D n m ∧ Reads W W.heap.size 1 A c.ps.length (cellsI .i64 c.ps) ∧ Reads W W.heap.size 3 D c.qs.length (cellsP c.qs) ∧ -128 ≤ c.st ∧ c.st ≤ 127 := by
  obtain ⟨xs, n, _, _, hl, hlen, hg⟩ := DataW.trod_struct Tryd.underlying26 h
  have hC : Tryd.prog.cellsOf 26 = 8 := by kernel_rfl
  have ki : Tryd.prog.cellsOf 3 = 1 := by kernel_rfl
  have kb : Tryd.prog.cellsOf 22 = 1 := by kernel_rfl
  have kl : Tryd.prog.cellsOf 23 = 1 := by kernel_rfl
  have kp : Tryd.prog.cellsOf 24 = 1 := by kernel_rfl
  rw [hC] at hl
  match cs, hl with
  | [c0, c1, c2, c3, c4, c5, c6, c7], _ =>
    match xs, hlen with
    | [y0, y1, y2, y3, y4, y5, y6, y7], _ =>
      have t0 := hg 0 _ rfl
      have t1 := hg 1 _ rfl
      have t2 := hg 2 _ rfl
      have t3 := hg 3 _ rfl
      have t4 := hg 4 _ rfl
      have t5 := hg 5 _ rfl
      have t6 := hg 6 _ rfl
      have t7 := hg 7 _ rfl
      clear hg
      simp [kb] at t0
      simp [ki] at t1 t2 t3 t4 t7
      simp [kl] at t5
      simp [kp] at t6
      obtain ⟨z0, e0, _, w0⟩ := DataW.trod_int Tryd.underlying22 t0
      obtain ⟨z1, e1, _, _⟩ := DataW.trod_int Tryd.underlying3 t1
      obtain ⟨z2, e2, _, _⟩ := DataW.trod_int Tryd.underlying3 t2
      obtain ⟨z3, e3, _, _⟩ := DataW.trod_int Tryd.underlying3 t3
      obtain ⟨z4, e4, _, _⟩ := DataW.trod_int Tryd.underlying3 t4
      obtain ⟨A1, c1, l1, rfl, k1, r1⟩ := field_ints t5
      obtain ⟨D1, ee1, l2, rfl, k2, r2⟩ := field_pends t6
      obtain ⟨z7, e7, _, _⟩ := DataW.trod_int Tryd.underlying3 t7
      simp at e0 e1 e2 e3 e4 e7
      subst e0; subst e1; subst e2; subst e3; subst e4; subst e7
      have hw : -128 ≤ z0 ∧ z0 ≤ 127 := by
        simp only [Lit.wf, Bool.and_eq_true, decide_eq_true_eq] at w0
        exact ⟨w0.1, w0.2⟩
      exact ⟨⟨z0, z1, z2, z3, z4, l1, l2, z7⟩, A1, D1, c1, ee1, rfl, r1, r2, hw.1, hw.2⟩
set_option maxRecDepth 100000 in
theorem trod_row {fuel : Nat} {cs : List Value} {x : DataW H × List MemPlace} (h : DataW.trod enc Tryd.prog W 0 (fun _ => true) true fuel 28 cs = some x) :
    ∃ g0 g1 g2 : Int, cs = [.int .i64 g0, .int .i64 g1, .int .i64 g2] := by
  obtain ⟨xs, n, _, _, hl, hlen, hg⟩ := DataW.trod_array Tryd.underlying28 h
  have hC : Tryd.prog.cellsOf 28 = 3 := by kernel_rfl
  have ki : Tryd.prog.cellsOf 3 = 1 := by kernel_rfl
  rw [hC] at hl
  match cs, hl with
  | [c0, c1, c2], _ =>
    match xs, hlen with
    | [y0, y1, y2], _ =>
      have t0 := hg 0 (by decide)
      have t1 := hg 1 (by decide)
      have t2 := hg 2 (by decide)
      simp [ki] at t0 t1 t2
      obtain ⟨z0, e0, _, _⟩ := DataW.trod_int Tryd.underlying3 t0
      obtain ⟨z1, e1, _, _⟩ := DataW.trod_int Tryd.underlying3 t1
      obtain ⟨z2, e2, _, _⟩ := DataW.trod_int Tryd.underlying3 t2
      simp at e0 e1 e2
      subst e0; subst e1; subst e2
      exact ⟨z0, z1, z2, rfl⟩
set_option maxRecDepth 100000 in
theorem open_st {r : Reach} {base : Nat} {v : Value} {d : DataW H} {p : List MemPlace} (hv : Value.okWide Tryd.prog W r base 31 v) (h : DataW.Trod enc Tryd.prog W 0 (fun _ => true) true 31 v d p) :
    ∃ (s : Sta) (a : Sad), v = .agg (stX s a) ∧ StRaw W s a := by
  obtain ⟨cs, rfl, _⟩ := okWide_struct Tryd.underlying31 hv
  obtain ⟨fuel, hf⟩ := h
  obtain ⟨xs, n, _, _, hl, hlen, hg⟩ := DataW.trod_struct Tryd.underlying31 hf
  have hC : Tryd.prog.cellsOf 31 = 31 := by kernel_rfl
  have ki : Tryd.prog.cellsOf 3 = 1 := by kernel_rfl
  have kt : Tryd.prog.cellsOf 27 = 24 := by kernel_rfl
  have kg : Tryd.prog.cellsOf 29 = 6 := by kernel_rfl
  have kc : Tryd.prog.cellsOf 26 = 8 := by kernel_rfl
  have kr : Tryd.prog.cellsOf 28 = 3 := by kernel_rfl
  rw [hC] at hl
  have hl' : cs.toList.length = 31 := hl
  obtain ⟨L, hL⟩ : ∃ L, L = cs.toList := ⟨_, rfl⟩
  have hcs : cs = L.toArray := by rw [hL]
  change ∀ (j : Nat) (f : Field), _ → DataW.trod enc Tryd.prog W 0 (fun _ => true) true n f.type ((cs.toList.drop f.offset).take (Tryd.prog.cellsOf f.type)) = xs[j]? at hg
  rw [← hL] at hg hl'
  match xs, hlen with
  | [y0, y1, y2], _ =>
    have t0 : DataW.trod enc Tryd.prog W 0 (fun _ => true) true n 3 ((L.drop 0).take (Tryd.prog.cellsOf 3)) = some y0 := hg 0 _ rfl
    have t1 : DataW.trod enc Tryd.prog W 0 (fun _ => true) true n 27 ((L.drop 1).take (Tryd.prog.cellsOf 27)) = some y1 := hg 1 _ rfl
    have t2 : DataW.trod enc Tryd.prog W 0 (fun _ => true) true n 29 ((L.drop 25).take (Tryd.prog.cellsOf 29)) = some y2 := hg 2 _ rfl
    clear hg
    rw [ki] at t0
    rw [kt] at t1
    rw [kg] at t2
    obtain ⟨m, e0, _, _⟩ := DataW.trod_int Tryd.underlying3 t0
    obtain ⟨xs1, n1, _, _, hl1, hlen1, hg1⟩ := DataW.trod_array Tryd.underlying27 t1
    obtain ⟨xs2, n2, _, _, hl2, hlen2, hg2⟩ := DataW.trod_array Tryd.underlying29 t2
    match xs1, hlen1 with
    | [u0, u1, u2], _ =>
      match xs2, hlen2 with
      | [q0, q1], _ =>
        have a0 := hg1 0 (by decide)
        have a1 := hg1 1 (by decide)
        have a2 := hg1 2 (by decide)
        have b0 := hg2 0 (by decide)
        have b1 := hg2 1 (by decide)
        rw [kc] at a0 a1 a2
        rw [kr] at b0 b1
        simp only [List.getElem?_cons_zero, List.getElem?_cons_succ] at a0 a1 a2 b0 b1
        obtain ⟨x0, A0, D0, n0, m0, f0, r0, s0, h0⟩ := trod_coS a0
        obtain ⟨x1, A1, D1, n1', m1, f1, r1, s1, h1⟩ := trod_coS a1
        obtain ⟨x2, A2, D2, n2', m2, f2, r2, s2, h2⟩ := trod_coS a2
        obtain ⟨g0, g1, g2, e3⟩ := trod_row b0
        obtain ⟨g3, g4, g5, e4⟩ := trod_row b1
        refine ⟨⟨m, fun k => if k = 0 then x0 else if k = 1 then x1 else x2, fun g => if g = 0 then g0 else if g = 1 then g1 else if g = 2 then g2 else if g = 3 then g3 else if g = 4 then g4 else g5⟩,
          ⟨fun k => if k = 0 then A0 else if k = 1 then A1 else A2, fun k => if k = 0 then D0 else if k = 1 then D1 else D2, fun k => if k = 0 then n0 else if k = 1 then n1' else n2', fun k => if k = 0 then m0 else if k = 1 then m1 else m2⟩, ?_, fun k hk => ?_⟩
        · rw [hcs]
          refine congrArg Value.agg (congrArg List.toArray ?_)
          show L = .int .i64 m :: ((coL x0 A0 D0 n0 m0 ++ (coL x1 A1 D1 n1' m1 ++ coL x2 A2 D2 n2' m2)) ++ [.int .i64 g0, .int .i64 g1, .int .i64 g2, .int .i64 g3, .int .i64 g4, .int .i64 g5])
          rw [← f0, ← f1, ← f2]
          rw [show ([.int .i64 g0, .int .i64 g1, .int .i64 g2, .int .i64 g3, .int .i64 g4, .int .i64 g5] : List Value) = [.int .i64 g0, .int .i64 g1, .int .i64 g2] ++ [.int .i64 g3, .int .i64 g4, .int .i64 g5] from rfl, ← e3, ← e4]
          match L, hl' with
          | [l0, l1, l2, l3, l4, l5, l6, l7, l8, l9, l10, l11, l12, l13, l14, l15, l16, l17, l18, l19, l20, l21, l22, l23, l24, l25, l26, l27, l28, l29, l30], _ =>
            have : l0 = .int .i64 m := by
              have : [l0] = [.int .i64 m] := e0
              injection this
            rw [this]
            rfl
        · match k, hk with
          | 0, _ => exact ⟨r0, s0, h0⟩
          | 1, _ => exact ⟨r1, s1, h1⟩
          | 2, _ => exact ⟨r2, s2, h2⟩
end
end Go.Proofs.YtbpkckahonmpkaaDoor
namespace Go.Proofs.YtbpkckahonmpkaaDoor
open Go.Joins Go.ChangeShapes Go.WideShapes Go.RowKit Go.Deep
section
variable {H : Type} {enc : TypeId × Value → H} {W : World}
set_option maxRecDepth 100000 in
theorem trod_pdM {fuel : Nat} {cs : List Value} {x : DataW H × List MemPlace} (h : DataW.trod enc Tryd.prog W 0 (fun _ => true) true fuel 33 cs = some x) :
    ∃ p : Pd, cs = [.int .i64 p.1, .int .i64 p.2.1, .int .i64 p.2.2] := by
  obtain ⟨xs, n, _, _, hl, hlen, hg⟩ := DataW.trod_struct Tryd.underlying33 h
  have hC : Tryd.prog.cellsOf 33 = 3 := by kernel_rfl
  have ki : Tryd.prog.cellsOf 3 = 1 := by kernel_rfl
  rw [hC] at hl
  match cs, hl with
  | [c0, c1, c2], _ =>
    match xs, hlen with
    | [y0, y1, y2], _ =>
      have t0 := hg 0 _ rfl
      have t1 := hg 1 _ rfl
      have t2 := hg 2 _ rfl
      simp [ki] at t0 t1 t2
      obtain ⟨z0, e0, _, w0⟩ := DataW.trod_int Tryd.underlying3 t0
      obtain ⟨z1, e1, _, w1⟩ := DataW.trod_int Tryd.underlying3 t1
      obtain ⟨z2, e2, _, w2⟩ := DataW.trod_int Tryd.underlying3 t2
      simp at e0 e1 e2
      subst e0; subst e1; subst e2
      exact ⟨(z0, z1, z2), rfl⟩
set_option maxRecDepth 100000 in
set_option maxHeartbeats 1000000 in
theorem trod_mt {fuel : Nat} {cs : List Value} {x : DataW H × List MemPlace} (h : DataW.trod enc Tryd.prog W 0 (fun _ => true) true fuel 35 cs = some x) :
    ∃ (m : Mt) (A D : Option Addr) (c e : Nat), cs = mtL m A D c e ∧ MtRaw W m A D := by
  obtain ⟨xs, n, _, _, hl, hlen, hg⟩ := DataW.trod_struct Tryd.underlying35 h
  have hC : Tryd.prog.cellsOf 35 = 17 := by kernel_rfl
  have ki : Tryd.prog.cellsOf 3 = 1 := by kernel_rfl
  have k8 : Tryd.prog.cellsOf 22 = 1 := by kernel_rfl
  have kb : Tryd.prog.cellsOf 4 = 1 := by kernel_rfl
  have kp : Tryd.prog.cellsOf 33 = 3 := by kernel_rfl
  have kc : Tryd.prog.cellsOf 26 = 8 := by kernel_rfl
  rw [hC] at hl
  match cs, hl with
  | [c0, c1, c2, c3, c4, c5, c6, c7, c8, c9, c10, c11, c12, c13, c14, c15, c16], _ =>
    match xs, hlen with
    | [y0, y1, y2, y3, y4, y5, y6, y7], _ =>
      have t0 := hg 0 _ rfl
      have t1 := hg 1 _ rfl
      have t2 := hg 2 _ rfl
      have t3 := hg 3 _ rfl
      have t4 := hg 4 _ rfl
      have t5 := hg 5 _ rfl
      have t6 := hg 6 _ rfl
      have t7 := hg 7 _ rfl
      clear hg
      simp [k8] at t0
      simp [ki] at t1 t2 t5 t7
      simp [kp] at t3
      simp [kb] at t4
      simp [kc] at t6
      obtain ⟨z0, e0, _, w0⟩ := DataW.trod_int Tryd.underlying22 t0
      obtain ⟨z1, e1, _, _⟩ := DataW.trod_int Tryd.underlying3 t1
      obtain ⟨z2, e2, _, _⟩ := DataW.trod_int Tryd.underlying3 t2
      obtain ⟨p, e3⟩ := trod_pdM t3
      obtain ⟨y, e4, _⟩ := DataW.trod_bool Tryd.underlying4 t4
      obtain ⟨z5, e5, _, _⟩ := DataW.trod_int Tryd.underlying3 t5
      obtain ⟨co, A, D, nn, mm, e6, r1, r2, r3⟩ := trod_coS t6
      obtain ⟨z7, e7, _, _⟩ := DataW.trod_int Tryd.underlying3 t7
      unfold coL at e6
      simp at e0 e1 e2 e3 e4 e5 e6 e7
      obtain ⟨rfl, rfl, rfl⟩ := e3
      obtain ⟨rfl, rfl, rfl, rfl, rfl, rfl, rfl, rfl⟩ := e6
      subst e0; subst e1; subst e2; subst e4; subst e5; subst e7
      exact ⟨⟨z0, z1, z2, p, y, z5, co, z7⟩, A, D, nn, mm, rfl, r1, r2, r3⟩
set_option maxRecDepth 100000 in
theorem open_mt {r : Reach} {base : Nat} {v : Value} {d : DataW H} {p : List MemPlace} (hv : Value.okWide Tryd.prog W r base 35 v) (h : DataW.Trod enc Tryd.prog W 0 (fun _ => true) true 35 v d p) :
    ∃ (m : Mt) (A D : Option Addr) (c e : Nat), v = .agg (mtX m A D c e) ∧ MtRaw W m A D := by
  obtain ⟨cs, rfl, _⟩ := okWide_struct Tryd.underlying35 hv
  obtain ⟨fuel, hf⟩ := h
  obtain ⟨m, A, D, c, e, hcs, hr⟩ := trod_mt hf
  refine ⟨m, A, D, c, e, ?_, hr⟩
  refine congrArg Value.agg ?_
  unfold mtX
  rw [← hcs]
  simp [Value.cells]
end
end Go.Proofs.YtbpkckahonmpkaaDoor
namespace Go.Proofs.YtbpkckahonmpkaaDoor
open Go.ChangeShapes Go.WideShapes Go.ChangeAt Go.RowKit

theorem own : ownKnob Tryd.prog.godebug = none := by kernel_rfl
theorem laidOut : laidOutB Tryd.prog = true := by kernel_rfl
theorem lay_et : Tryd.prog.globalNamed "errors.errorType" = some 0 := by kernel_rfl
theorem lay_rt : (Tryd.prog.cutTypes.find? (·.1 == "internal/reflectlite.rtype")).map (·.2) = some 120 := by kernel_rfl
theorem lay_row : ((List.range 168).filter fun t => Tryd.prog.rowNamed t [101, 114, 114, 111, 114]) = [62] := by kernel_rfl
theorem lay_size : Tryd.prog.types.size = 168 := by kernel_rfl

def theLaid {H : Type} : List (String × DataW H) := [("errors.errorType", Rows.laid_errors_errorType)]

theorem hasErr_of_laid {W : World} (h : laidMetH Tryd.prog theLaid W) : HasET W := by
  have h' : laidMet Tryd.prog [] W ∧ handlesMet Tryd.prog theLaid W := h
  obtain ⟨name, u, ty, e1, e2, e3, e4, e5⟩ := h'.2 _ (List.mem_singleton.2 rfl)
  have en : name = [101, 114, 114, 111, 114] := (Option.some.inj e1).symm
  subst en
  obtain rfl := Option.some.inj (lay_rt.symm.trans e2)
  have hm : ty ∈ (List.range 168).filter fun t => Tryd.prog.rowNamed t [101, 114, 114, 111, 114] := List.mem_filter.2 ⟨List.mem_range.2 (by rw [← lay_size]; exact e3), e4⟩
  rw [lay_row] at hm
  obtain rfl := List.mem_singleton.1 hm
  have hh : typeHandle Tryd.prog 62 = .pointer (some ⟨1, 62, none⟩) := by kernel_rfl
  rw [hh] at e5
  unfold HasET
  simpa using World.var?_cell lay_et e5 0

/-- A world that meets the condition: the settled one, the variable's cell laid. -/
noncomputable def laidWorld (os : Os) : World :=
  { World.holding Tryd.prog os ⟨#[], #[], []⟩ with heap := (World.holding Tryd.prog os ⟨#[], #[], []⟩).heap.modify 0 fun
      | .cells _ t frozen => .cells #[.iface 120 (.agg #[.pointer (some ⟨1, 62, none⟩)])] t frozen
      | o => o }

end Go.Proofs.YtbpkckahonmpkaaDoor
