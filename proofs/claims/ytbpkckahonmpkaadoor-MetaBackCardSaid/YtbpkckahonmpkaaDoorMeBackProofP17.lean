/-
  Layer 20, plain: what a migration writes of a state, folded: the law of MetaBack.
  Layer 18, the document's: Add.
  Layer 18, the document's: Set.
  Layer 20: the state behind an entry, by the document (Next).
  Layer 20: what the document says of four entries (wakes); which states and entries are too great.
  Layer 20: whether two states are the same, by the document.
  Layer 21: what the document says of a transaction that is 3 ticks old.
  Whole states as they are handed in.
  The statement MetaNext: its walk.
  Layer 20, plain: what waits in a transactional id, what its commit tells: the law of MetaOffsets.
-/
import Derived.Test.YtbpkckahonmpkaaDoorMeBackProofP16
import Derived.Deep.LoopGhost
import Derived.Deep.CutBlock
import Derived.Great.BuildSlice
import Derived.Laws.StructEq
set_option linter.unusedVariables false
set_option linter.unusedSimpArgs false
namespace Go.Proofs.YtbpkckahonmpkaaDoor
open Go.RowKit
/-- The blocks of the call, while a list is made. -/
structure MkS (w : World) (n : Nat) (cs : List (TypeId × Array Value)) (W : World) : Prop where
  blk : ∀ j t a, cs[j]? = some (t, a) → Blk W (w.heap.size + j) t a
  bel : Below w.heap.size w W
  top : w.heap.size + n ≤ W.heap.size
theorem MkS.grown {w : World} {n : Nat} {cs : List (TypeId × Array Value)} {W W3 : World} {r : Option Nat} (h : MkS w n cs W) (hl : cs.length = n) (hg : W.grownBy W3 r) (hr : ∀ y, r = some y → w.heap.size + n ≤ y) : MkS w n cs W3 :=
  ⟨fun j t a hj => bk_grown_blk hg (h.blk j t a hj) (fun e => by have := hr _ e; have := (List.getElem?_eq_some_iff.1 hj).1; omega), h.bel.grown hg h.bel.size (fun y hy => by have := hr y hy; omega), Nat.le_trans h.top hg.size⟩
theorem MkS.b0 {w : World} {n : Nat} {t : TypeId} {a : Array Value} {r : List (TypeId × Array Value)} {W : World} (h : MkS w n ((t, a) :: r) W) : Blk W w.heap.size t a := h.blk 0 t a rfl
theorem MkS.b1 {w : World} {n : Nat} {x : TypeId × Array Value} {t : TypeId} {a : Array Value} {r : List (TypeId × Array Value)} {W : World} (h : MkS w n (x :: (t, a) :: r) W) : Blk W (w.heap.size + 1) t a := h.blk 1 t a rfl
theorem MkS.b2 {w : World} {n : Nat} {x y : TypeId × Array Value} {t : TypeId} {a : Array Value} {r : List (TypeId × Array Value)} {W : World} (h : MkS w n (x :: y :: (t, a) :: r) W) : Blk W (w.heap.size + 1 + 1) t a := h.blk 2 t a rfl
theorem MkS.alloc {w : World} {n : Nat} {cs : List (TypeId × Array Value)} {W : World} (h : MkS w n cs W) (hl : cs.length = n) (ob : Obj) : MkS w n cs (W.alloc ob) := h.grown hl (grown_alloc W ob none) (fun y e => by cases e)
theorem MkS.below {w : World} {n : Nat} {cs : List (TypeId × Array Value)} {W W' : World} (h : MkS w n cs W) (hl : cs.length = n) (hb : Below W.heap.size W W') : MkS w n cs W' := h.grown hl (grown_below hb (Nat.le_refl _) none) (fun y e => by cases e)
section
attribute [-go_sem] loadCells storeVar
end
end Go.Proofs.YtbpkckahonmpkaaDoor
namespace Go.Proofs.YtbpkckahonmpkaaDoor
open Go.RowKit
/-- A round's worlds: the call's blocks, the box of what is looked at, the list that is made. -/
structure RdB (w : World) (n : Nat) (cs : List (TypeId × Array Value)) (xb : Nat) (t : TypeId) (xc : Array Value) (ou : List Pd) (A : Option Addr) (cc : Nat) (W : World) : Prop where
  ms : MkS w n cs W
  xl : w.heap.size + n ≤ xb
  bx : Blk W xb t xc
  ow : W.ownsRow (w.heap.size + n) 33 3 (.slice A ou.length cc) ou.length (cellsP ou)
  ne : ∀ y, (Value.slice A ou.length cc).ownBlock = some y → y ≠ xb
section
variable {w : World} {n : Nat} {cs : List (TypeId × Array Value)} {xb : Nat} {t : TypeId} {xc : Array Value} {ou : List Pd} {A : Option Addr} {cc : Nat} {W : World}
theorem RdB.start {W1 : World} (h : MkS w n cs W) (hl : cs.length = n) (ow : W.ownsRow (w.heap.size + n) 33 3 (.slice A ou.length cc) ou.length (cellsP ou)) (bx : Blk W1 W.heap.size t xc) (hb : Below W.heap.size W W1) : RdB w n cs W.heap.size t xc ou A cc W1 :=
  ⟨h.below hl hb, h.top, bx, own_below ow hb, fun y hy => by have := (ow.lt y hy).2; omega⟩
theorem RdB.below {W1 : World} (h : RdB w n cs xb t xc ou A cc W) (hl : cs.length = n) (hb : Below W.heap.size W W1) : RdB w n cs xb t xc ou A cc W1 :=
  ⟨h.ms.below hl hb, h.xl, h.bx.below hb h.bx.lt, own_below h.ow hb, h.ne⟩
end
section
attribute [-go_sem] loadCells storeVar
end
end Go.Proofs.YtbpkckahonmpkaaDoor
namespace Go.Proofs.YtbpkckahonmpkaaDoor
open Go.RowKit
theorem StB.put {s : Sta} {t : Nat} {d : Co} (h : StB s) (hd : -128 ≤ d.st ∧ d.st ≤ 127) : StB (s.put t d) := fun k hk => by
  by_cases e : k = t
  · rw [show (s.put t d).tid k = d from if_pos e]; exact hd
  · rw [show (s.put t d).tid k = s.tid k from if_neg e]; exact h k hk
theorem StB.gr {s s' : Sta} (h : StB s) (e : ∀ k, k < 3 → s'.tid k = s.tid k) : StB s' := fun k hk => by rw [e k hk]; exact h k hk
section
attribute [-go_sem] loadCells storeVar Instr.build
end
end Go.Proofs.YtbpkckahonmpkaaDoor
namespace Go.Proofs.YtbpkckahonmpkaaDoor
open Go.RowKit
def oneS (made : Int) (c : Co) (g : Nat → Int) : Sta := ⟨made, fun k => if k = 0 then c else Co0, g⟩
theorem oneS_put (made : Int) (c d : Co) (g : Nat → Int) : (oneS made c g).put 0 d = oneS made d g := by
  unfold oneS Sta.put
  congr 1
  funext k
  show (if k = 0 then d else if k = 0 then c else Co0) = if k = 0 then d else Co0
  by_cases h : k = 0
  · rw [if_pos h, if_pos h]
  · rw [if_neg h, if_neg h, if_neg h]
theorem co0_may : mayB Co0 = true := by unfold mayB; simp [Co0, sameB]
theorem oneS_may {made : Int} {c : Co} {g : Nat → Int} (hc : mayB c = true) (hp : c.pid ≤ made) (h0 : 0 ≤ made) (h8 : made ≤ 8) (hg : ∀ j, -1 ≤ g j ∧ g j ≤ 1048576) : mayS (oneS made c g) = true := by
  refine (mayS_iff _).2 ⟨h0, h8, fun k hk => (okT_iff _ k).2 ?_, fun j _ => ?_⟩
  · by_cases h : k = 0
    · subst h
      exact ⟨hc, hp, fun j hj => absurd hj (Nat.not_lt_zero j)⟩
    · have e : (oneS made c g).tid k = Co0 := if_neg h
      rw [e]
      exact ⟨co0_may, h0, fun _ _ => .inl rfl⟩
  · show (decide (-1 ≤ g j) && decide (g j ≤ 1048576)) = true
    rw [decide_eq_true (hg j).1, decide_eq_true (hg j).2]; rfl
def we1 : Mt := ⟨1, 0, 5, Pd0, false, 0, Co0, 0⟩
def we2 : Mt := ⟨2, 0, 0, (1, 2, 9), false, 0, Co0, 0⟩
def we3 : Mt := ⟨3, 0, 0, Pd0, true, 0, Co0, 0⟩
def we4 : Mt := ⟨4, 0, 0, Pd0, false, 0, Co0, 0⟩
theorem we1_may : mayM we1 = true := by unfold mayM fitM bareM sameM sameB; simp [we1, Co0, Pd0]
theorem we2_may : mayM we2 = true := by unfold mayM fitM bareM sameM sameB; simp [we2, Co0, Pd0, pendB, partB]
theorem we3_may : mayM we3 = true := by unfold mayM fitM bareM sameM sameB; simp [we3, Co0, Pd0]
theorem we4_may : mayM we4 = true := by unfold mayM fitM bareM sameM sameB; simp [we4, Co0, Pd0]
def wc1 : Co := ⟨1, 1, 0, 5, 0, [], [], 0⟩
def wc2 : Co := ⟨2, 1, 0, 5, 0, [], [(1, 2, 9)], 0⟩
def wc3 : Co := ⟨3, 1, 0, 5, 0, [], [(1, 2, 9)], 0⟩
def wc4 : Co := ⟨5, 1, 0, 5, 0, [], [], 0⟩
theorem wc1_may : mayB wc1 = true := may_new 1 1 0 5 (.inl rfl) ⟨by decide, by decide⟩ ⟨by decide, by decide⟩ ⟨by decide, by decide⟩
theorem wc2_set : setE wc1 (1, 2, 9) = 0 ∧ setC wc1 (1, 2, 9) = wc2 := by
  have h : setE wc1 (1, 2, 9) = 0 := by
    unfold setE chkE
    rw [if_neg (by rw [wc1_may]; decide), if_neg (by decide)]
  exact ⟨h, (set_ok h).2⟩
theorem wc2_may : mayB wc2 = true := by rw [← wc2_set.2]; exact (set_ok wc2_set.1).1
theorem wc3_prep : prepE wc2 true 0 = 0 ∧ prepC wc2 true 0 = wc3 := by
  have h : prepE wc2 true 0 = 0 := by
    unfold prepE
    rw [if_neg (by simp), if_neg (by unfold chkE; rw [if_neg (by rw [wc2_may]; decide), if_neg (by decide)]; simp), if_neg (by simp)]
  refine ⟨h, ?_⟩
  unfold prepC
  rw [if_pos h]
  rfl
theorem wc3_may : mayB wc3 = true := by
  rw [← wc3_prep.2]
  exact (mv_fact (x := ⟨3, 0, 0, Pd0, true, []⟩) wc2_may (by unfold mvE; simpa using wc3_prep.1)).may
theorem wc4_comp : chkE wc3 3 true = 0 ∧ compC wc3 = wc4 := by
  have h : chkE wc3 3 true = 0 := by
    unfold chkE
    rw [if_neg (by rw [wc3_may]; decide), if_neg (by decide)]
  refine ⟨h, ?_⟩
  unfold compC
  rw [if_neg (by rw [h]; simp), if_neg (by decide), if_neg (by decide)]
  rfl
theorem wc4_may : mayB wc4 = true := may_new 5 1 0 5 (.inr (.inl rfl)) ⟨by decide, by decide⟩ ⟨by decide, by decide⟩ ⟨by decide, by decide⟩
def gr0 : Nat → Int := fun _ => -1
theorem gr0_ok : ∀ j, -1 ≤ gr0 j ∧ gr0 j ≤ 1048576 := fun _ => ⟨by unfold gr0; decide, by unfold gr0; decide⟩
theorem sta0_one : sta0 = oneS 0 Co0 gr0 := by
  unfold sta0 oneS gr0
  congr 1
  funext k
  split <;> rfl
theorem ws1 : nextE sta0 we1 = 0 ∧ nextS sta0 we1 = oneS 1 wc1 gr0 := by
  rw [sta0_one]
  have hs : mayS (oneS 0 Co0 gr0) = true := oneS_may co0_may (by decide) (by decide) (by decide) gr0_ok
  have h := next_f hs we1_may rfl (show ((oneS 0 Co0 gr0).tid 0).st = 0 from rfl)
  rw [if_neg (by decide), if_neg (by decide)] at h
  refine ⟨h.1, ?_⟩
  rw [h.2, (init_fresh (c := (oneS 0 Co0 gr0).tid we1.tid.toNat) co0_may rfl (n := (oneS 0 Co0 gr0).made + 1) (tm := we1.tm) (by decide) (by decide) (by decide) (by decide)).2]
  have := oneS_put 0 Co0 wc1 gr0
  show ({ (oneS 0 Co0 gr0).put 0 wc1 with made := 1 } : Sta) = _
  rw [this]; rfl
theorem ws_move {c d : Co} {m : Mt} (hc : mayB c = true) (hd : mayB d = true) (hm : mayM m = true) (ht : m.tid = 0) (hp : c.pid = 1) (hp2 : d.pid = 1) (g g2 : Nat → Int) (hg : ∀ j, -1 ≤ g j ∧ g j ≤ 1048576) (hg2 : ∀ j, -1 ≤ g2 j ∧ g2 j ≤ 1048576)
    (hk : ¬ (m.kd = 0 ∨ m.kd = 5 ∨ m.kd = 7)) (hf : ¬ (m.kd = 1 ∧ c.st = 0)) (he : moveE c m 1 = 0) (hdd : moveC c m 1 = d) (hpn : (oneS 1 c g).pends (if m.kd = 4 ∧ c.st = 3 then c.qs else []) = oneS 1 c g2) :
    nextE (oneS 1 c g) m = 0 ∧ nextS (oneS 1 c g) m = oneS 1 d g2 := by
  have hs : mayS (oneS 1 c g) = true := oneS_may hc (by omega) (by decide) (by decide) hg
  have htn : m.tid.toNat = 0 := by rw [ht]; rfl
  have h := next_m hs hm hk (by rw [htn]; exact hf)
  rw [htn] at h
  have e0 : (oneS 1 c g).tid 0 = c := rfl
  have em : (oneS 1 c g).made = 1 := rfl
  rw [e0, em, he, hdd, hpn, oneS_put] at h
  have hn : nextE (oneS 1 c g) m = 0 := by
    rw [h.1, h.2, if_neg (by simp), if_pos (oneS_may hd (by omega) (by decide) (by decide) hg2)]
  exact ⟨hn, by unfold nextS; rw [if_pos hn, h.2]⟩
theorem ws2 : nextE (oneS 1 wc1 gr0) we2 = 0 ∧ nextS (oneS 1 wc1 gr0) we2 = oneS 1 wc2 gr0 :=
  ws_move wc1_may wc2_may we2_may rfl rfl rfl gr0 gr0 gr0_ok gr0_ok (by decide) (by decide) wc2_set.1 wc2_set.2 rfl
theorem ws3 : nextE (oneS 1 wc2 gr0) we3 = 0 ∧ nextS (oneS 1 wc2 gr0) we3 = oneS 1 wc3 gr0 :=
  ws_move wc2_may wc3_may we3_may rfl rfl rfl gr0 gr0 gr0_ok gr0_ok (by decide) (by decide) wc3_prep.1 wc3_prep.2 rfl
def gr4 : Nat → Int := fun j => if j = 5 then 9 else gr0 j
theorem gr4_ok : ∀ j, -1 ≤ gr4 j ∧ gr4 j ≤ 1048576 := fun j => by
  unfold gr4
  split
  · exact ⟨by decide, by decide⟩
  · exact gr0_ok j
theorem ws4 : nextE (oneS 1 wc3 gr0) we4 = 0 ∧ nextS (oneS 1 wc3 gr0) we4 = oneS 1 wc4 gr4 :=
  ws_move wc3_may wc4_may we4_may rfl rfl rfl gr0 gr4 gr0_ok gr4_ok (by decide) (by decide) wc4_comp.1 wc4_comp.2 rfl
def wL : List MtM := [⟨we1, none, none, 0, 0⟩, ⟨we2, none, none, 0, 0⟩, ⟨we3, none, none, 0, 0⟩, ⟨we4, none, none, 0, 0⟩]
theorem wL_fold : foldM sta0 (wL.map (·.x)) 0 = (oneS 1 wc4 gr4, 4, 0) := by
  show foldM sta0 [we1, we2, we3, we4] 0 = _
  unfold foldM
  rw [if_pos ws1.1, ws1.2]
  unfold foldM
  rw [if_pos ws2.1, ws2.2]
  unfold foldM
  rw [if_pos ws3.1, ws3.2]
  unfold foldM
  rw [if_pos ws4.1, ws4.2]
  rfl
theorem wL_R (w : World) (B : Nat) : MtsR w B wL := by
  intro y hy
  unfold wL at hy
  simp only [List.mem_cons, List.not_mem_nil, or_false] at hy
  rcases hy with rfl | rfl | rfl | rfl <;> exact co0_R w B
section
attribute [-go_sem] loadCells storeVar
set_option maxRecDepth 100000 in
set_option maxHeartbeats 4000000 in
theorem of_1 (s : Sta) (a : Sad) (w : World) (hp : (s.tid 0).pid = 1) :
    Calls Tryd.prog 24 #[.agg (stX s a), .int .i64 1] w fun e w' => e = .returned (.tuple #[.int .i64 0, .bool true]) ∧ Below w.heap.size w w' := by
  obtain ⟨W0, hW0⟩ : ∃ W0, W0 = w.alloc (.cells (stX s a) 31) := ⟨_, rfl⟩
  have B0 : Below w.heap.size w W0 := by rw [hW0]; exact bal (Below.refl _ _) _
  have K1 : Blk W0 w.heap.size 31 (stX s a) := by rw [hW0]; exact Blk.new w 31 (stX s a)
  have HW := Lib.hid hW0
  have HB := Lib.hid B0
  have x1 := st_tids K1
  have ix := st_index0 s a W0
  obtain ⟨W2, st2, k2, b2, s2⟩ := bk_fresh (P := Tryd.prog) W0 26 #[.int .i8 0, .int .i64 0, .int .i64 0, .int .i64 0, .int .i64 0, .slice none 0 0, .slice none 0 0, .int .i64 0] #[.int .i8 (s.tid 0).st, .int .i64 (s.tid 0).pid, .int .i64 (s.tid 0).ep, .int .i64 (s.tid 0).tm, .int .i64 (s.tid 0).th, .slice (a.A 0) (s.tid 0).ps.length (a.c 0), .slice (a.D 0) (s.tid 0).qs.length (a.e 0), .int .i64 (s.tid 0).ag] 8 infoCoS rfl rfl (by simp [Value.oneCell'])
  have y1 : W2.cell? ⟨W0.heap.size, 1, none⟩ = some (.int .i64 1) := by rw [← hp]; exact k2.cell 1
  have B2 := Lib.hid (B0.trans (b2.mono B0.size))
  clear hW0 B0 K1 k2 b2 s2 hp
  go_enter Tryd.func24, Tryd.ntmps24
  go_upto_region 1 with (fail)
  rw [← HW.out]
  go_wp2_with fail
  go_loopg [10] 1 (fun mm y wq => y = .int .i64 0 ∧ mm = 1 ∧ wq = W0)
  case atStart => exact ⟨rfl, rfl, rfl⟩
  obtain ⟨rfl, hmm, rfl⟩ := hrel
  clear hmm
  go_wp2_with fail
  go_ret2
  exact ⟨rfl, B2.out⟩
set_option maxRecDepth 100000 in
set_option maxHeartbeats 4000000 in
theorem plain_1 (s : Sta) (a : Sad) (w : World) (hp : (s.tid 0).pid = 1) (hm : s.made = 1) :
    Calls Tryd.prog 25 #[.agg (stX s a), .int .i64 1] w fun e w' => e = .returned (.bool false) ∧ Below w.heap.size w w' := by
  obtain ⟨W0, hW0⟩ : ∃ W0, W0 = w.alloc (.cells (stX s a) 31) := ⟨_, rfl⟩
  have B0 : Below w.heap.size w W0 := by rw [hW0]; exact bal (Below.refl _ _) _
  have K1 : Blk W0 w.heap.size 31 (stX s a) := by rw [hW0]; exact Blk.new w 31 (stX s a)
  have HW := Lib.hid hW0
  have HB := Lib.hid B0
  have HK := Lib.hid K1
  have HM := Lib.hid hm
  have l1 := st_load K1
  have OF := Lib.hid (of_1 s a W0 hp)
  clear hW0 B0 K1 hp hm
  go_enter Tryd.func25, Tryd.ntmps25
  go_upto_region 1 with (fail)
  rw [← HW.out]
  go_wp2_with fail
  refine OF.out.mono ?_
  rintro e w1 ⟨rfl, b1⟩
  have xm : w1.cell? ⟨w.heap.size, 0, none⟩ = some (.int .i64 1) := by rw [← HM.out]; exact st_made (HK.out.below b1 HK.out.lt)
  have B1 := Lib.hid (HB.out.trans (b1.mono HB.out.size))
  clear b1 l1
  go_wp2_with fail
  go_ret
  exact ⟨rfl, B1.out⟩
section
attribute [-go_sem] Instr.build Instr.buildSlice
theorem wbs (W : World) : (Instr.buildSlice 44 4 #[(0, .agg (mtX we1 none none 0 0)), (1, .agg (mtX we2 none none 0 0)), (2, .agg (mtX we3 none none 0 0)), (3, .agg (mtX we4 none none 0 0))]).run Tryd.prog W = .ok (.slice (some ⟨W.heap.size, 0, none⟩) 4 4) (W.alloc (.cells (cellsE wL).toArray 35)) := by kernel_rfl
set_option maxRecDepth 100000 in
set_option maxHeartbeats 8000000 in
theorem wakes20 (w : World) (hg : HasET w) : Calls Tryd.prog 9 #[] w fun e w' => e = .returned (.bool true) ∧ Below w.heap.size w w' := by
  have bd1 : ∀ W, (Instr.build 35 #[(0, .int .i8 1), (2, .int .i64 5)]).run Tryd.prog W = .ok (.agg (mtX we1 none none 0 0)) W := fun W => run_build W 35 _ _ (by kernel_rfl)
  have bdp : ∀ W, (Instr.build 33 #[(0, .int .i64 1), (1, .int .i64 2), (2, .int .i64 9)]).run Tryd.prog W = .ok (.agg #[.int .i64 1, .int .i64 2, .int .i64 9]) W := fun W => run_build W 33 _ _ (by kernel_rfl)
  have bd2 : ∀ W, (Instr.build 35 #[(0, .int .i8 2), (3, .agg #[.int .i64 1, .int .i64 2, .int .i64 9])]).run Tryd.prog W = .ok (.agg (mtX we2 none none 0 0)) W := fun W => run_build W 35 _ _ (by kernel_rfl)
  have bd3 : ∀ W, (Instr.build 35 #[(0, .int .i8 3), (4, .bool true)]).run Tryd.prog W = .ok (.agg (mtX we3 none none 0 0)) W := fun W => run_build W 35 _ _ (by kernel_rfl)
  have bd4 : ∀ W, (Instr.build 35 #[(0, .int .i8 4)]).run Tryd.prog W = .ok (.agg (mtX we4 none none 0 0)) W := fun W => run_build W 35 _ _ (by kernel_rfl)
  have bs := fun W => wbs W
  obtain ⟨W1, hW1⟩ : ∃ W1, W1 = w.alloc (.cells (cellsE wL).toArray 35) := ⟨_, rfl⟩
  have B1 : Below w.heap.size w W1 := by rw [hW1]; exact bal (Below.refl _ _) _
  have k1 : Blk W1 w.heap.size 35 (cellsE wL).toArray := by rw [hW1]; exact Blk.new _ _ _
  have hr : Reads W1 W1.heap.size 17 (some ⟨w.heap.size, 0, none⟩) wL.length (cellsE wL) := ⟨by rw [length_cellsE], fun _ => ⟨_, rfl, k1.lt, fun j u hu => by
    rw [add_none, Nat.zero_add, k1.cell]
    simpa using hu⟩⟩
  have hf := mFold_any wL (some ⟨w.heap.size, 0, none⟩) 4 W1.heap.size W1 hr (Nat.le_refl _) (wL_R _ _) (by decide) (hg.up B1)
  unfold FoP at hf
  rw [wL_fold] at hf
  have FO := Lib.hid (show Calls Tryd.prog 20 #[.slice (some ⟨w.heap.size, 0, none⟩) 4 4] W1 fun e w' => ∃ a, e = .returned (.tuple #[.agg (stX (oneS 1 wc4 gr4) a), .int .i64 4, .int .i64 0]) ∧ StR w' w'.heap.size (oneS 1 wc4 gr4) a ∧ Below W1.heap.size W1 w' from hf)
  have HW1 := Lib.hid hW1
  have HB1 := Lib.hid B1
  clear hW1 B1 k1 hr hf hg
  go_enter Tryd.func9, Tryd.ntmps9
  go_wp2_with fail
  rw [← HW1.out]
  refine FO.out.mono ?_
  rintro e w2 ⟨a, rfl, r2, b2⟩
  obtain ⟨W3, st3, k3, b3, s3⟩ := bk_fresh (P := Tryd.prog) w2 31 #[.int .i64 0, .int .i8 0, .int .i64 0, .int .i64 0, .int .i64 0, .int .i64 0, .slice none 0 0, .slice none 0 0, .int .i64 0, .int .i8 0, .int .i64 0, .int .i64 0, .int .i64 0, .int .i64 0, .slice none 0 0, .slice none 0 0, .int .i64 0, .int .i8 0, .int .i64 0, .int .i64 0, .int .i64 0, .int .i64 0, .slice none 0 0, .slice none 0 0, .int .i64 0, .int .i64 0, .int .i64 0, .int .i64 0, .int .i64 0, .int .i64 0, .int .i64 0] (stX (oneS 1 wc4 gr4) a) 31 infoSta rfl (stX_size ..) (stX_one ..)
  have K3 := Lib.hid k3
  have B3 := Lib.hid (HB1.out.trans ((b2.trans (b3.mono b2.size)).mono HB1.out.size))
  have l3 := st_load k3
  have OF := Lib.hid (of_1 (oneS 1 wc4 gr4) a W3 rfl)
  clear k3 b3 s3 r2 b2 bd1 bdp bd2 bd3 bd4 bs
  go_wp2_with fail
  refine OF.out.mono ?_
  rintro e w4 ⟨rfl, b4⟩
  have k4 := K3.out.below b4 K3.out.lt
  have l4 := st_load k4
  have c0 : w4.cell? ⟨w2.heap.size, 0, none⟩ = some (.int .i64 1) := st_made k4
  have c30 : w4.cell? ⟨w2.heap.size, 25 + 1 * 3 + 2, none⟩ = some (.int .i64 9) := st_gr k4 5 (by decide)
  have c25 : w4.cell? ⟨w2.heap.size, 25, none⟩ = some (.int .i64 (-1)) := st_gr k4 0 (by decide)
  simp only [Nat.reduceMul, Nat.reduceAdd] at c30
  have PL := Lib.hid (plain_1 (oneS 1 wc4 gr4) a w4 rfl rfl)
  have B4 := Lib.hid (B3.out.trans (b4.mono B3.out.size))
  clear k4 b4 l3 st3
  go_wp2_with fail
  refine PL.out.mono ?_
  rintro e w5 ⟨rfl, b5⟩
  have B5 := Lib.hid (B4.out.trans (b5.mono B4.out.size))
  clear b5 l4 c0 c30 c25
  go_wp2_with fail
  go_ret
  exact ⟨rfl, B5.out⟩
end
end
end Go.Proofs.YtbpkckahonmpkaaDoor
namespace Go.Proofs.YtbpkckahonmpkaaDoor
open Go.RowKit
def grsB (s t : Sta) : Bool := ((s.gr 0 == t.gr 0) && ((s.gr 1 == t.gr 1) && (s.gr 2 == t.gr 2))) && ((s.gr 3 == t.gr 3) && ((s.gr 4 == t.gr 4) && (s.gr 5 == t.gr 5)))
theorem eqR3 (d : Nat) (a0 a1 a2 b0 b1 b2 : Int) (w : World) : (Op.equalIn (d + 1 + 1) 28 (.agg #[.int .i64 a0, .int .i64 a1, .int .i64 a2]) (.agg #[.int .i64 b0, .int .i64 b1, .int .i64 b2])).run Tryd.prog w = .ok ((a0 == b0) && ((a1 == b1) && (a2 == b2))) w := by
  have u3 := Tryd.underlying3
  have a3 := Tryd.isAgg3
  have z3 := Tryd.sizeOf3
  rw [Op.equalIn]
  simp only [Sem.run_bind, run_underlying Tryd.underlying28, Result.andThen_ok]
  simp only [Std.Legacy.Range.forIn_eq_forIn_range', Std.Legacy.Range.size, Nat.sub_zero, Nat.add_sub_cancel, Nat.div_one, List.range'_succ, List.range'_zero, List.forIn_cons, List.forIn_nil]
  go_simp
  by_cases h1 : a0 = b0 <;> by_cases h2 : a1 = b1 <;> by_cases h3 : a2 = b2 <;> simp [h1, h2, h3]
theorem eqGr (s t : Sta) (w : World) : (Op.equalIn 10000 29 (.agg (grX s)) (.agg (grX t))).run Tryd.prog w = .ok (grsB s t) w := by
  have u3 := Tryd.underlying28
  have a3 := Tryd.isAgg28
  have z3 := Tryd.sizeOf28
  have e0 := fun W => eqR3 9997 (s.gr 0) (s.gr 1) (s.gr 2) (t.gr 0) (t.gr 1) (t.gr 2) W
  have e1 := fun W => eqR3 9997 (s.gr 3) (s.gr 4) (s.gr 5) (t.gr 3) (t.gr 4) (t.gr 5) W
  unfold grsB
  generalize ((s.gr 0 == t.gr 0) && ((s.gr 1 == t.gr 1) && (s.gr 2 == t.gr 2))) = u at e0 ⊢
  generalize ((s.gr 3 == t.gr 3) && ((s.gr 4 == t.gr 4) && (s.gr 5 == t.gr 5))) = v at e1 ⊢
  rw [show (10000 : Nat) = 9999 + 1 from rfl, Op.equalIn]
  simp only [Sem.run_bind, run_underlying Tryd.underlying29, Result.andThen_ok]
  simp only [Std.Legacy.Range.forIn_eq_forIn_range', Std.Legacy.Range.size, Nat.sub_zero, Nat.add_sub_cancel, Nat.div_one, List.range'_succ, List.range'_zero, List.forIn_cons, List.forIn_nil]
  unfold grX grL
  go_simp
  cases u <;> cases v <;> simp
section
attribute [-go_sem] loadCells storeVar
end
end Go.Proofs.YtbpkckahonmpkaaDoor
namespace Go.Proofs.YtbpkckahonmpkaaDoor
open Go.RowKit
theorem sameB_refl (c : Co) : sameB c c = true := by unfold sameB; simp
theorem sta_ext {s t : Sta} (h1 : s.made = t.made) (h2 : ∀ k, s.tid k = t.tid k) (h3 : ∀ g, s.gr g = t.gr g) : s = t := by
  cases s; cases t
  simp only [Sta.mk.injEq]
  exact ⟨h1, funext h2, funext h3⟩
section
attribute [-go_sem] loadCells storeVar Instr.build
end
end Go.Proofs.YtbpkckahonmpkaaDoor
namespace Go.Proofs.YtbpkckahonmpkaaDoor
open Go.RowKit
/-- A state as it is handed in: its lists, however long. -/
def StRaw (w : World) (s : Sta) (a : Sad) : Prop := ∀ k, k < 3 → Reads w w.heap.size 1 (a.A k) (s.tid k).ps.length (cellsI .i64 (s.tid k).ps) ∧ Reads w w.heap.size 3 (a.D k) (s.tid k).qs.length (cellsP (s.tid k).qs) ∧ -128 ≤ (s.tid k).st ∧ (s.tid k).st ≤ 127
theorem StRaw.num {w : World} {s : Sta} {a : Sad} (h : StRaw w s a) : StB s := fun k hk => (h k hk).2.2
end Go.Proofs.YtbpkckahonmpkaaDoor
namespace Go.Proofs.YtbpkckahonmpkaaDoor
open Go.RowKit
def MtRaw (w : World) (m : Mt) (A D : Option Addr) : Prop := Reads w w.heap.size 1 A m.c.ps.length (cellsI .i64 m.c.ps) ∧ Reads w w.heap.size 3 D m.c.qs.length (cellsP m.c.qs) ∧ -128 ≤ m.c.st ∧ m.c.st ≤ 127
theorem MtRaw.co {w : World} {m : Mt} {A D : Option Addr} (h : MtRaw w m A D) (hb : bigT m.c = false) : CoR w w.heap.size m.c A D := by
  unfold bigT at hb
  simp only [Bool.or_eq_false_iff, decide_eq_false_iff_not, Nat.not_lt] at hb
  exact ⟨h.1, h.2.1, by omega, by omega⟩
theorem StRaw.st {w : World} {s : Sta} {a : Sad} (h : StRaw w s a) (hb : bigS s = false) : StR w w.heap.size s a := fun k hk => by
  have := bigS_no hb k hk
  exact ⟨(h k hk).1, (h k hk).2.1, by omega, by omega⟩
section
attribute [-go_sem] loadCells storeVar
set_option maxRecDepth 100000 in
set_option maxHeartbeats 4000000 in
theorem rGreat20_any (s : Sta) (a : Sad) (w : World) :
    Calls Tryd.prog 7 #[.agg (stX s a)] w fun e w' => e = .returned (.bool (bigS s)) ∧ Below w.heap.size w w' := by
  obtain ⟨W0, hW0⟩ : ∃ W0, W0 = w.alloc (.cells (stX s a) 31) := ⟨_, rfl⟩
  have B0 : Below w.heap.size w W0 := by rw [hW0]; exact bal (Below.refl _ _) _
  have K1 : Blk W0 w.heap.size 31 (stX s a) := by rw [hW0]; exact Blk.new w 31 (stX s a)
  have HW := Lib.hid hW0
  have HB := Lib.hid B0
  have HK := Lib.hid K1
  clear hW0 B0 K1
  go_enter Tryd.func7, Tryd.ntmps7
  go_upto_region 1 with (fail)
  rw [← HW.out]
  go_wp2_with fail
  go_loopg [3] 3 (fun mm y wq => ∃ (k : Nat), k ≤ 3 ∧ y = .int .i64 k ∧ mm = 3 - k ∧ (∀ i, i < k → bigT (s.tid i) = false) ∧ Below W0.heap.size W0 wq)
  case atStart => exact ⟨0, by omega, rfl, rfl, fun i hi => by omega, Below.refl _ _⟩
  case round =>
    obtain ⟨k, hk, rfl, hmm, hok, hbw⟩ := hrel
    have HMM := Lib.hid hmm
    have OK := Lib.hid hok
    have BW' := Lib.hid hbw
    clear hmm hok hbw
    by_cases hlt : k < 3
    · have d3 : decide ((k : Int) < 3) = true := decide_eq_true (by omega)
      have i1 : (0 : Int) ≤ (k : Int) := by omega
      have i2 : (k : Int) < 3 := by omega
      have lt1 := st_tid (HK.out.below BW'.out HK.out.lt) k hlt
      have GA := Lib.hid (Great_any (s.tid k) (a.A k) (a.D k) (a.c k) (a.e k) wr)
      obtain ⟨u, hu⟩ : ∃ u, bigB (s.tid k) = u := ⟨_, rfl⟩
      rw [hu] at GA
      have HU := Lib.hid (show bigT (s.tid k) = u from hu)
      clear hu
      go_wp2_with fail
      refine GA.out.mono ?_
      rintro e w3 ⟨rfl, b3⟩
      have B3 := Lib.hid (BW'.out.trans (b3.mono BW'.out.size))
      clear b3 lt1
      cases u
      · go_wp2_with fail
        go_roundg (gk - 1)
        case measure => have := HMM.out; omega
        case rel =>
          refine ⟨k + 1, by omega, by go_num, by have := HMM.out; omega, fun i hi => ?_, B3.out⟩
          rcases Nat.lt_succ_iff_lt_or_eq.1 hi with h | h
          · exact OK.out i h
          · rw [h, HU.out]
      · have HY := Lib.hid (show bigS s = true by
          unfold bigS
          rw [List.any_eq_true]
          exact ⟨k, List.mem_range.2 hlt, HU.out⟩)
        go_wp2_with fail
        go_ret
        rw [HY.out]
        exact ⟨rfl, HB.out.trans (B3.out.mono HB.out.size)⟩
    · obtain rfl : k = 3 := by omega
      have d3 : decide (((3 : Nat) : Int) < 3) = false := by decide
      have HN := Lib.hid (show bigS s = false by
        unfold bigS
        rw [List.any_eq_false]
        exact fun i hi => by rw [OK.out i (List.mem_range.1 hi)]; decide)
      go_wp2_with fail
      go_ret
      rw [HN.out]
      exact ⟨rfl, HB.out.trans (BW'.out.mono HB.out.size)⟩
end
end Go.Proofs.YtbpkckahonmpkaaDoor
namespace Go.Proofs.YtbpkckahonmpkaaDoor
open Go.RowKit
def idxP (p : Pd) : Nat := p.1.toNat * 3 + p.2.1.toNat
def waitL : List Pd → Nat → Int
  | [], _ => 0
  | y :: l, g => if idxP y = g then y.2.2 + 1 else waitL l g
/-- What the law keeps beside the state. -/
structure OfI (s : Sta) (want wait : Nat → Int) (yes : Nat → Bool) : Prop where
  want : ∀ g, g < 6 → want g = s.gr g
  wait : ∀ t, t < 3 → ∀ g, g < 6 → wait (t * 6 + g) = waitL (s.tid t).qs g
  yes : ∀ t, t < 3 → ((s.tid t).st = 3 → yes t = true) ∧ ((s.tid t).st = 4 → yes t = false)
def upd {α : Type} (f : Nat → α) (i : Nat) (v : α) : Nat → α := fun j => if j = i then v else f j
theorem OfI.start : OfI sta0 (fun _ => -1) (fun _ => 0) (fun _ => false) := ⟨fun _ _ => rfl, fun _ _ _ _ => rfl, fun _ _ => ⟨fun h => absurd h (show ¬ (0 : Int) = 3 by decide), fun _ => rfl⟩⟩
theorem OfI.made {s : Sta} {want wait : Nat → Int} {yes : Nat → Bool} (h : OfI s want wait yes) (n : Int) : OfI { s with made := n } want wait yes := ⟨h.want, h.wait, h.yes⟩
theorem OfI.pend {s : Sta} {want wait : Nat → Int} {yes : Nat → Bool} (h : OfI s want wait yes) (p : Pd) : OfI (s.pend p) (upd want (idxP p) p.2.2) wait yes := by
  refine ⟨fun g hg => ?_, h.wait, h.yes⟩
  show (if g = idxP p then p.2.2 else want g) = if g = idxP p then p.2.2 else s.gr g
  by_cases e : g = idxP p
  · rw [if_pos e, if_pos e]
  · rw [if_neg e, if_neg e]; exact h.want g hg
theorem OfI.put {s : Sta} {want wait wait' : Nat → Int} {yes yes' : Nat → Bool} (h : OfI s want wait yes) {t : Nat} {d : Co} (hw : ∀ u, u < 3 → ∀ g, g < 6 → wait' (u * 6 + g) = if u = t then waitL d.qs g else wait (u * 6 + g)) (hy : ∀ u, u < 3 → ¬ u = t → yes' u = yes u) (hd : (d.st = 3 → yes' t = true) ∧ (d.st = 4 → yes' t = false)) :
    OfI (s.put t d) want wait' yes' := by
  refine ⟨h.want, fun u hu g hg => ?_, fun u hu => ?_⟩
  · rw [hw u hu g hg]
    by_cases e : u = t
    · rw [if_pos e, show (s.put t d).tid u = d from if_pos e]
    · rw [if_neg e, show (s.put t d).tid u = s.tid u from if_neg e]; exact h.wait u hu g hg
  · by_cases e : u = t
    · rw [show (s.put t d).tid u = d from if_pos e, e]; exact hd
    · rw [show (s.put t d).tid u = s.tid u from if_neg e, hy u hu e]; exact h.yes u hu
end Go.Proofs.YtbpkckahonmpkaaDoor
namespace Go.Proofs.YtbpkckahonmpkaaDoor
open Go.RowKit
def bareC (c : Co) : Co := if c.st = 2 ∧ c.qs.length = 0 then { c with ps := [], st := 1, ag := 0 } else { c with ps := [] }
theorem bareC_pid (c : Co) : (bareC c).pid = c.pid := by unfold bareC; split <;> rfl
theorem bareC_ps (c : Co) : (bareC c).ps = [] := by unfold bareC; split <;> rfl
theorem range_ps {c : Co} {l : List Int} (h : rangeB c = true) (hl : partsB l = true) : rangeB { c with ps := l } = true := by
  rw [range_iff] at h ⊢
  exact ⟨h.1, h.2.1, h.2.2.1, h.2.2.2.1, h.2.2.2.2.1, h.2.2.2.2.2.1, h.2.2.2.2.2.2.1, h.2.2.2.2.2.2.2.1, h.2.2.2.2.2.2.2.2.1, hl, h.2.2.2.2.2.2.2.2.2.2⟩
theorem may_idle_co {c : Co} (h : mayB c = true) (hs : c.st = 1 ∨ c.st = 5 ∨ c.st = 6) : c.th = 0 ∧ c.ag = 0 ∧ c.ps = [] ∧ c.qs = [] ∧ rangeB c = true := by
  unfold mayB at h
  rw [if_neg (by omega), if_neg (by omega), if_neg (by omega), if_neg (by omega), if_pos hs] at h
  unfold idleB at h
  simp only [Bool.and_eq_true, decide_eq_true_eq, beq_iff_eq] at h
  exact ⟨h.1, h.2.1, List.eq_nil_of_length_eq_zero h.2.2.1, List.eq_nil_of_length_eq_zero h.2.2.2.1, h.2.2.2.2⟩
theorem may_kinds {c : Co} (h : mayB c = true) : c.st = 0 ∨ c.st = 2 ∨ c.st = 3 ∨ c.st = 4 ∨ (c.st = 1 ∨ c.st = 5 ∨ c.st = 6) := by
  by_cases h0 : c.st = 0
  · exact .inl h0
  by_cases h2 : c.st = 2
  · exact .inr (.inl h2)
  by_cases h3 : c.st = 3
  · exact .inr (.inr (.inl h3))
  by_cases h4 : c.st = 4
  · exact .inr (.inr (.inr (.inl h4)))
  by_cases h5 : c.st = 1 ∨ c.st = 5 ∨ c.st = 6
  · exact .inr (.inr (.inr (.inr h5)))
  unfold mayB at h
  rw [if_neg h0, if_neg h2, if_neg h3, if_neg h4, if_neg h5] at h
  cases h
theorem bareC_may {c : Co} (h : mayB c = true) : mayB (bareC c) = true := by
  rcases may_kinds h with h0 | h2 | h3 | h4 | h5
  · rw [may_none h h0]
    unfold bareC
    rw [if_neg (by decide)]
    exact co0_may
  · have ho := may_open h (.inl h2)
    have hr := (range_iff c).1 ho.2
    by_cases hq : c.qs.length = 0
    · have hqs := List.eq_nil_of_length_eq_zero hq
      have e : bareC c = ⟨1, c.pid, c.ep, c.tm, 0, [], [], 0⟩ := by
        unfold bareC
        rw [if_pos ⟨h2, hq⟩, ho.1, hqs]
      rw [e]
      exact may_new 1 _ _ _ (.inl rfl) ⟨hr.2.1, hr.2.2.1⟩ ⟨hr.2.2.2.1, hr.2.2.2.2.1⟩ ⟨hr.2.2.2.2.2.1, hr.2.2.2.2.2.2.1⟩
    · have e : bareC c = { c with ps := [] } := by unfold bareC; rw [if_neg (fun x => hq x.2)]
      rw [e]
      exact may_2 h2 (fun x => hq x.2) ho.1 (range_ps ho.2 parts_nilG)
  · have hp := may_prep h (.inl h3)
    have e : bareC c = { c with ps := [] } := by unfold bareC; rw [if_neg (fun x => by have := x.1; omega)]
    rw [e]
    exact may_3 h3 (hp.2.2.2.2 h3) (range_ps hp.2.2.2.1 parts_nilG)
  · have hp := may_prep h (.inr h4)
    have e : bareC c = { c with ps := [] } := by unfold bareC; rw [if_neg (fun x => by have := x.1; omega)]
    rw [e]
    exact may_4 h4 hp.1 hp.2.1 hp.2.2.1 (range_ps hp.2.2.2.1 parts_nilG)
  · have hi := may_idle_co h h5
    have e : bareC c = c := by
      unfold bareC
      rw [if_neg (fun x => by have := x.1; omega)]
      cases c
      simp at hi
      simp [hi.2.2.1]
    rw [e]; exact h
theorem may_parts {c : Co} (h : mayB c = true) : partsB c.ps = true := by
  by_cases h0 : c.st = 0
  · rw [may_none h h0]; exact parts_nilG
  · exact ((range_iff c).1 (may_range h h0)).2.2.2.2.2.2.2.2.2.1
/-- A state whose transactional ids up to k are as a log tells them, the others nothing. -/
noncomputable def bareTo (s : Sta) (k : Nat) : Nat → Co := fun j => if j < k ∧ ¬ (s.tid j).st = 0 then bareC (s.tid j) else Co0
noncomputable def bareS (s : Sta) (k n : Nat) : Sta := ⟨s.made, bareTo s k, fun g => if g < n then s.gr g else -1⟩
theorem bareS_may {s : Sta} (h : mayS s = true) (k n : Nat) (hn : n ≤ 6) : mayS (bareS s k n) = true := by
  obtain ⟨h0, h8, ht, hg⟩ := (mayS_iff s).1 h
  refine (mayS_iff _).2 ⟨h0, h8, fun j hj => ?_, fun g hg6 => ?_⟩
  · obtain ⟨k1, k2, k3⟩ := (okT_iff s j).1 (ht j hj)
    have hpid : ∀ i, ((bareS s k n).tid i).pid = (s.tid i).pid ∨ ((bareS s k n).tid i).pid = 0 := fun i => by
      show (bareTo s k i).pid = _ ∨ (bareTo s k i).pid = 0
      unfold bareTo
      split
      · exact .inl (bareC_pid _)
      · exact .inr rfl
    refine (okT_iff _ j).2 ⟨?_, ?_, fun i hi => ?_⟩
    · show mayB (bareTo s k j) = true
      unfold bareTo
      split
      · exact bareC_may k1
      · exact co0_may
    · rcases hpid j with e | e
      · rw [e]; exact k2
      · rw [e]; exact h0
    · rcases hpid j with e | e
      · rcases k3 i hi with z | z
        · exact .inl (e.trans z)
        · rcases hpid i with e2 | e2
          · exact .inr (by rw [e, e2]; exact z)
          · by_cases hz : (s.tid j).pid = 0
            · exact .inl (e.trans hz)
            · exact .inr (by rw [e, e2]; exact fun x => hz x.symm)
      · exact .inl e
  · have := hg g hg6
    unfold okG at this ⊢
    show (decide (-1 ≤ if g < n then s.gr g else -1) && decide ((if g < n then s.gr g else -1) ≤ 1048576)) = true
    split
    · exact this
    · decide
/-! The entries that a migration writes. -/
def mtNext (n : Int) : Mt := ⟨7, 0, 0, Pd0, false, 0, Co0, n⟩
def mtState (k : Nat) (c : Co) : Mt := ⟨6, k, 0, Pd0, false, 0, c, 0⟩
def mtCommit (g : Nat) (n : Int) : Mt := ⟨5, 0, 0, (((g / 3 : Nat) : Int), ((g % 3 : Nat) : Int), n), false, 0, Co0, 0⟩
noncomputable def rowsT (s : Sta) : Nat → List Mt
  | 0 => [mtNext s.made]
  | k + 1 => rowsT s k ++ (if (s.tid k).st = 0 then [] else [mtState k (bareC (s.tid k))])
noncomputable def rowsG (s : Sta) : Nat → List Mt
  | 0 => rowsT s 3
  | g + 1 => rowsG s g ++ (if s.gr g = -1 then [] else [mtCommit g (s.gr g)])
theorem mtNext_may {n : Int} (h0 : 0 ≤ n) (h8 : n ≤ 8) : mayM (mtNext n) = true := by
  unfold mayM fitM bareM sameM sameB
  simp [mtNext, Co0, Pd0, h0, h8]
theorem mtState_may {k : Nat} {c : Co} (hk : k < 3) (hc : mayB c = true) (hp : c.ps = []) : mayM (mtState k c) = true := by
  have h3 : (k : Int) < 3 := by omega
  have h0 : (0 : Int) ≤ (k : Int) := by omega
  have hl : c.ps.length = 0 := by rw [hp]; rfl
  unfold mayM fitM bareM sameM
  simp only [mtState]
  simp [Pd0, sameB_refl, hc, hp, h3, h0]
theorem mtCommit_may {g : Nat} {n : Int} (hg : g < 6) (h0 : 0 ≤ n) (h1 : n ≤ 1048576) : mayM (mtCommit g n) = true ∧ idxP (mtCommit g n).p = g := by
  have h3 : g / 3 < 2 := by omega
  have hq : g % 3 < 3 := by omega
  constructor
  · unfold mayM fitM bareM sameM
    simp only [mtCommit]
    simp [Pd0, sameB_refl, pendB, partB]
    omega
  · unfold idxP
    show ((g / 3 : Nat) : Int).toNat * 3 + ((g % 3 : Nat) : Int).toNat = g
    simp
    omega
theorem GoesM_snoc {s : Sta} {l : List Mt} {x : Mt} (h : GoesM s l l.length) (hx : nextE (stA s l) x = 0) : GoesM s (l ++ [x]) (l ++ [x]).length := by
  intro j y hj hy
  rw [List.length_append, List.length_singleton] at hj
  rcases Nat.lt_succ_iff_lt_or_eq.1 hj with h1 | h1
  · rw [List.getElem?_append_left h1] at hy
    rw [List.take_append_of_le_length (Nat.le_of_lt h1)]
    exact h j y h1 hy
  · subst h1
    rw [List.getElem?_append_right (Nat.le_refl _), Nat.sub_self] at hy
    simp at hy
    subst hy
    rw [List.take_append_of_le_length (Nat.le_refl _), List.take_of_length_le (Nat.le_refl _)]
    exact hx
theorem rowsT_law {s : Sta} (h : mayS s = true) : ∀ k, k ≤ 3 → GoesM sta0 (rowsT s k) (rowsT s k).length ∧ stA sta0 (rowsT s k) = bareS s k 0
  | 0, _ => by
    obtain ⟨h0, h8, ht, hg⟩ := (mayS_iff s).1 h
    have hm := mtNext_may h0 h8
    have hs0 : mayS sta0 = true := by rw [sta0_one]; exact oneS_may co0_may (by decide) (by decide) (by decide) gr0_ok
    have e : ({ sta0 with made := (mtNext s.made).nx } : Sta) = bareS s 0 0 := by
      refine sta_ext rfl (fun k => ?_) (fun _ => rfl)
      show Co0 = bareTo s 0 k
      unfold bareTo
      rw [if_neg (fun x => Nat.not_lt_zero _ x.1)]
    have hn := next_7 hs0 hm rfl
    rw [e, if_pos (bareS_may h 0 0 (by decide)), if_pos (bareS_may h 0 0 (by decide))] at hn
    refine ⟨fun j x hj hx => ?_, ?_⟩
    · obtain rfl : j = 0 := by simp [rowsT] at hj; omega
      simp [rowsT] at hx
      rw [← hx]
      exact hn.1
    · show nextS sta0 (mtNext s.made) = _
      exact hn.2
  | k + 1, hk => by
    obtain ⟨ih1, ih2⟩ := rowsT_law h k (by omega)
    obtain ⟨h0, h8, ht, hg⟩ := (mayS_iff s).1 h
    have hc := ((okT_iff s k).1 (ht k (by omega))).1
    by_cases hz : (s.tid k).st = 0
    · have e : rowsT s (k + 1) = rowsT s k := by show rowsT s k ++ _ = _; rw [if_pos hz, List.append_nil]
      rw [e]
      refine ⟨ih1, ih2.trans ?_⟩
      refine sta_ext rfl (fun j => ?_) (fun _ => rfl)
      show bareTo s k j = bareTo s (k + 1) j
      unfold bareTo
      by_cases h1 : j < k ∧ ¬ (s.tid j).st = 0
      · rw [if_pos h1, if_pos ⟨by omega, h1.2⟩]
      · rw [if_neg h1, if_neg (fun x => h1 ⟨by
          have := x.1
          rcases Nat.lt_succ_iff_lt_or_eq.1 this with y | y
          · exact y
          · exact absurd (by rw [y]; exact hz) x.2, x.2⟩)]
    · have e : rowsT s (k + 1) = rowsT s k ++ [mtState k (bareC (s.tid k))] := by show rowsT s k ++ _ = _; rw [if_neg hz]
      have hm := mtState_may (c := bareC (s.tid k)) (show k < 3 by omega) (bareC_may hc) (bareC_ps _)
      have hs := bareS_may h k 0 (by decide)
      have hn := next_m (m := mtState k (bareC (s.tid k))) hs hm (show ¬ ((6 : Int) = 0 ∨ (6 : Int) = 5 ∨ (6 : Int) = 7) by decide) (fun x => absurd x.1 (show ¬ (6 : Int) = 1 by decide))
      have htn : (mtState k (bareC (s.tid k))).tid.toNat = k := by show ((k : Nat) : Int).toNat = k; simp
      rw [htn] at hn
      have e0 : moveE ((bareS s k 0).tid k) (mtState k (bareC (s.tid k))) (bareS s k 0).made = 0 := rfl
      have e1 : toS (bareS s k 0) (mtState k (bareC (s.tid k))) = bareS s (k + 1) 0 := by
        rw [hn.2]
        refine sta_ext rfl (fun j => ?_) (fun _ => rfl)
        show (if j = k then bareC (s.tid k) else bareTo s k j) = bareTo s (k + 1) j
        unfold bareTo
        by_cases hj : j = k
        · rw [if_pos hj, hj, if_pos ⟨Nat.lt_succ_self k, hz⟩]
        · rw [if_neg hj]
          by_cases h1 : j < k ∧ ¬ (s.tid j).st = 0
          · rw [if_pos h1, if_pos ⟨by omega, h1.2⟩]
          · rw [if_neg h1, if_neg (fun x => h1 ⟨by omega, x.2⟩)]
      have hne : nextE (bareS s k 0) (mtState k (bareC (s.tid k))) = 0 := by
        rw [hn.1, e0, e1, if_neg (by simp), if_pos (bareS_may h (k + 1) 0 (by decide))]
      rw [e]
      refine ⟨GoesM_snoc ih1 (by rw [ih2]; exact hne), ?_⟩
      rw [stA_snoc, ih2]
      unfold nextS
      rw [if_pos hne, e1]
theorem rowsG_law {s : Sta} (h : mayS s = true) : ∀ g, g ≤ 6 → GoesM sta0 (rowsG s g) (rowsG s g).length ∧ stA sta0 (rowsG s g) = bareS s 3 g
  | 0, _ => rowsT_law h 3 (Nat.le_refl _)
  | g + 1, hg => by
    obtain ⟨ih1, ih2⟩ := rowsG_law h g (by omega)
    obtain ⟨h0, h8, ht, hgr⟩ := (mayS_iff s).1 h
    have hb := hgr g (by omega)
    unfold okG at hb
    simp only [Bool.and_eq_true, decide_eq_true_eq] at hb
    by_cases hz : s.gr g = -1
    · have e : rowsG s (g + 1) = rowsG s g := by show rowsG s g ++ _ = _; rw [if_pos hz, List.append_nil]
      rw [e]
      refine ⟨ih1, ih2.trans ?_⟩
      refine sta_ext rfl (fun _ => rfl) (fun j => ?_)
      show (if j < g then s.gr j else -1) = if j < g + 1 then s.gr j else -1
      by_cases h1 : j < g
      · rw [if_pos h1, if_pos (by omega)]
      · rw [if_neg h1]
        by_cases h2 : j = g
        · rw [if_pos (by omega), h2, hz]
        · rw [if_neg (by omega)]
    · have e : rowsG s (g + 1) = rowsG s g ++ [mtCommit g (s.gr g)] := by show rowsG s g ++ _ = _; rw [if_neg hz]
      have hm := mtCommit_may (g := g) (n := s.gr g) (by omega) (by omega) (by omega)
      have hn := next_5 (bareS_may h 3 g (by omega)) hm.1 rfl
      have e1 : (bareS s 3 g).pend (mtCommit g (s.gr g)).p = bareS s 3 (g + 1) := by
        refine sta_ext rfl (fun _ => rfl) (fun j => ?_)
        show (if j = idxP (mtCommit g (s.gr g)).p then s.gr g else if j < g then s.gr j else -1) = if j < g + 1 then s.gr j else -1
        rw [hm.2]
        by_cases hj : j = g
        · rw [if_pos hj, if_pos (by omega), hj]
        · rw [if_neg hj]
          by_cases h1 : j < g
          · rw [if_pos h1, if_pos (by omega)]
          · rw [if_neg h1, if_neg (by omega)]
      rw [e1] at hn
      rw [e]
      refine ⟨GoesM_snoc ih1 (by rw [ih2]; exact hn.1), ?_⟩
      rw [stA_snoc, ih2, hn.2]
theorem rows_fold {s : Sta} (h : mayS s = true) : foldM sta0 (rowsG s 6) 0 = (bareS s 3 6, (rowsG s 6).length, 0) := by
  have := rowsG_law h 6 (Nat.le_refl _)
  rw [foldM_all _ _ _ this.1, this.2, Nat.zero_add]
theorem rows_pos (s : Sta) : 0 < (rowsG s 6).length := by
  have h0 : ∀ k, 0 < (rowsT s k).length := fun k => by
    induction k with
    | zero => exact Nat.zero_lt_one
    | succ k ih => show 0 < (rowsT s k ++ _).length; rw [List.length_append]; omega
  have h1 : ∀ g, 0 < (rowsG s g).length := fun g => by
    induction g with
    | zero => exact h0 3
    | succ g ih => show 0 < (rowsG s g ++ _).length; rw [List.length_append]; omega
  exact h1 6
/-- A transactional id as a log tells it, placed again. -/
theorem place_bare {c : Co} (h : mayB c = true) : placeE (bareC c) c.ps = 0 ∧ sameB (placeC (bareC c) c.ps) (if (placeC (bareC c) c.ps).st = 2 ∧ (placeC (bareC c) c.ps).qs.length = 0 then { c with ag := 0 } else c) = true := by
  have he : placeE (bareC c) c.ps = 0 := by
    unfold placeE
    rw [if_neg (by rw [bareC_may h, may_parts h]; simp), if_neg]
    rintro ⟨h1, h2⟩
    rcases may_kinds h with h0 | h0 | h0 | h0 | h0
    · rw [may_none h h0] at h2; exact absurd h2 (by decide)
    all_goals
      unfold bareC at h1
      split at h1
      · exact absurd h1 (show ¬ (1 : Int) = 0 by decide)
      · have h3 : c.st = 0 := h1
        omega
  refine ⟨he, ?_⟩
  have hb : sameB (placeC (bareC c) c.ps) (if (placeC (bareC c) c.ps).st = 2 ∧ (placeC (bareC c) c.ps).qs.length = 0 then { c with ag := 0 } else c) = true := by
    rcases may_kinds h with h0 | h2 | h3 | h4 | h5
    · rw [may_none h h0]
      have e : bareC Co0 = Co0 := rfl
      rw [e]
      have e2 : placeC Co0 Co0.ps = Co0 := by
        unfold placeC
        rw [if_neg (by rw [may_none h h0, e] at he; rw [he]; simp), if_neg (by decide), if_neg (by decide), if_neg (by decide)]
      rw [e2, if_neg (by decide)]
      exact sameB_refl _
    · have ho := may_open h (.inl h2)
      by_cases hq : c.qs.length = 0
      · have hqs := List.eq_nil_of_length_eq_zero hq
        have hps : 0 < c.ps.length := by
          by_cases hp : c.ps.length = 0
          · unfold mayB at h
            rw [if_neg (by omega), if_pos h2] at h
            simp [hp, hq] at h
          · omega
        have e : bareC c = { c with ps := [], st := 1, ag := 0 } := by unfold bareC; rw [if_pos ⟨h2, hq⟩]
        have e2 : placeC (bareC c) c.ps = { c with ag := 0 } := by
          unfold placeC
          rw [if_neg (by rw [he]; simp), e, if_neg (show ¬ ((1 : Int) = 3 ∨ (1 : Int) = 4) by decide), if_neg (show ¬ (1 : Int) = 2 by decide), if_pos hps]
          cases c
          simp at h2
          simp [h2]
        rw [e2, if_pos ⟨h2, hq⟩]
        exact sameB_refl _
      · have e : bareC c = { c with ps := [] } := by unfold bareC; rw [if_neg (fun x => hq x.2)]
        have e2 : placeC (bareC c) c.ps = c := by
          unfold placeC
          rw [if_neg (by rw [he]; simp), e, if_neg (show ¬ (c.st = 3 ∨ c.st = 4) by omega), if_pos h2, if_neg (fun x => hq x.2)]
        rw [e2, if_neg (fun x => hq x.2)]
        exact sameB_refl _
    · have e : bareC c = { c with ps := [] } := by unfold bareC; rw [if_neg (fun x => by have := x.1; omega)]
      have e2 : placeC (bareC c) c.ps = c := by
        unfold placeC
        rw [if_neg (by rw [he]; simp), e, if_pos (show c.st = 3 ∨ c.st = 4 from .inl h3)]
      rw [e2, if_neg (fun x => by have := x.1; omega)]
      exact sameB_refl _
    · have e : bareC c = { c with ps := [] } := by unfold bareC; rw [if_neg (fun x => by have := x.1; omega)]
      have e2 : placeC (bareC c) c.ps = c := by
        unfold placeC
        rw [if_neg (by rw [he]; simp), e, if_pos (show c.st = 3 ∨ c.st = 4 from .inr h4)]
      rw [e2, if_neg (fun x => by have := x.1; omega)]
      exact sameB_refl _
    · have hi := may_idle_co h h5
      have e : bareC c = c := by
        unfold bareC
        rw [if_neg (fun x => by have := x.1; omega)]
        cases c
        simp at hi
        simp [hi.2.2.1]
      have e2 : placeC (bareC c) c.ps = c := by
        unfold placeC
        rw [if_neg (by rw [he]; simp), e, if_neg (by omega), if_neg (by omega), if_neg (by rw [hi.2.2.1]; decide)]
      rw [e2, if_neg (fun x => by have := x.1; omega)]
      exact sameB_refl _
  exact hb
theorem bare_tid {s : Sta} (h : mayS s = true) {k : Nat} (hk : k < 3) : (bareS s 3 6).tid k = bareC (s.tid k) := by
  show bareTo s 3 k = _
  unfold bareTo
  by_cases hz : (s.tid k).st = 0
  · rw [if_neg (fun x => x.2 hz), may_none ((okT_iff s k).1 (((mayS_iff s).1 h).2.2.1 k hk)).1 hz]
    rfl
  · rw [if_pos ⟨hk, hz⟩]
end Go.Proofs.YtbpkckahonmpkaaDoor
