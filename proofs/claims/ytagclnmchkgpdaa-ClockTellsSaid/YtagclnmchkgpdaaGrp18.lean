/-
  Whole states as they are handed in.
  Layer 21: what the document says of a transaction that is 3 ticks old.
  Layer 21: two slices of numbers; what the document says of a transaction that is 3 ticks old.
-/
import Derived.Test.YtagclnmchkgpdaaGrp15
import Derived.Test.YtagclnmchkgpdaaGrp16
import Derived.Test.YtagclnmchkgpdaaGrp17
set_option linter.unusedVariables false
set_option linter.unusedSimpArgs false
namespace Go.Proofs.Ytagclnmchkgpdaa
open Go.RowKit
def goC (ag tm : Int) : Co := ⟨2, 1, 0, tm, 0, [0], [], ag⟩
def goS (ag tm : Int) : Sta := ({ sta0 with made := 1 } : Sta).put 1 (goC ag tm)
theorem adj_one {α : Type} {R : α → α → Prop} (x : α) : Adj R [x] [x].length := fun i a b h1 h2 h3 => by
  have := (List.getElem?_eq_some_iff.1 h3).1
  simp at this
theorem sameB_refl (c : Co) : sameB c c = true := by unfold sameB; simp
theorem may_go {ag tm : Int} (h1 : 1 ≤ tm) (h2 : tm ≤ 20) (h3 : 0 ≤ ag) (h4 : ag ≤ 1048576) : mayB (goC ag tm) = true := by
  have hr : rangeB (goC ag tm) = true := by
    unfold rangeB goC partsB
    rw [adjB_true (adj_one (R := ltP) (0 : Int)), adjB_true (R := aheadP) (l := []) (fun i a b h => by simp at h)]
    simp [partB, h1, h2, h3, h4]
  unfold mayB
  rw [if_neg (by show ¬ (2 : Int) = 0; decide), if_pos (show (goC ag tm).st = 2 from rfl)]
  unfold tailB
  rw [hr]
  rfl
theorem may_zero : mayB Co0 = true := by unfold mayB; rw [if_pos (show Co0.st = 0 from rfl)]; exact sameB_refl _
theorem goS_0 (ag tm : Int) : (goS ag tm).tid 0 = Co0 := rfl
theorem goS_1 (ag tm : Int) : (goS ag tm).tid 1 = goC ag tm := rfl
theorem goS_2 (ag tm : Int) : (goS ag tm).tid 2 = Co0 := rfl
theorem mayS_go {ag tm : Int} (h1 : 1 ≤ tm) (h2 : tm ≤ 20) (h3 : 0 ≤ ag) (h4 : ag ≤ 1048576) : mayS (goS ag tm) = true := by
  refine (mayS_iff _).2 ⟨by show (0 : Int) ≤ 1; decide, by show (1 : Int) ≤ 8; decide, fun k hk => (okT_iff _ k).2 ?_, fun g hg => ?_⟩
  · match k, hk with
    | 0, _ => exact ⟨may_zero, by show (0 : Int) ≤ 1; decide, fun j hj => by omega⟩
    | 1, _ => exact ⟨may_go h1 h2 h3 h4, by show (1 : Int) ≤ 1; decide, fun j hj => .inr (by obtain rfl : j = 0 := (by omega); show ¬ (0 : Int) = 1; decide)⟩
    | 2, _ => exact ⟨may_zero, by show (0 : Int) ≤ 1; decide, fun j hj => .inl rfl⟩
  · show (decide ((-1 : Int) ≤ -1) && decide ((-1 : Int) ≤ 1048576)) = true
    decide
theorem tick_zero : tickC Co0 = Co0 := by unfold tickC; rw [if_neg (fun h => by have := h.2; cases this)]
theorem tick_go {ag tm : Int} (h1 : 1 ≤ tm) (h2 : tm ≤ 20) (h3 : 0 ≤ ag) (h4 : ag < 1048576) : tickC (goC ag tm) = goC (ag + 1) tm := by
  unfold tickC
  rw [if_pos ⟨may_go h1 h2 h3 (by omega), rfl⟩]
  show ({ goC ag tm with ag := if ag < 1048576 then ag + 1 else ag } : Co) = _
  rw [if_pos h4]
  rfl
theorem sta_ext {s t : Sta} (h1 : s.made = t.made) (h2 : ∀ k, s.tid k = t.tid k) (h3 : ∀ g, s.gr g = t.gr g) : s = t := by
  cases s; cases t
  simp only [Sta.mk.injEq]
  exact ⟨h1, funext h2, funext h3⟩
theorem tickS_go {ag tm : Int} (h1 : 1 ≤ tm) (h2 : tm ≤ 20) (h3 : 0 ≤ ag) (h4 : ag < 1048576) : tickS (goS ag tm) = goS (ag + 1) tm := by
  unfold tickS
  rw [if_pos (mayS_go h1 h2 h3 (by omega))]
  refine sta_ext rfl (fun k => ?_) (fun _ => rfl)
  show (if k < 3 then tickC ((goS ag tm).tid k) else (goS ag tm).tid k) = _
  by_cases hk : k = 1
  · rw [hk, if_pos (by omega), goS_1, tick_go h1 h2 h3 h4]; rfl
  · have e : ∀ n, (goS n tm).tid k = Co0 := fun n => if_neg hk
    rw [e, e, tick_zero]
    split <;> rfl
theorem youngS_go {ag tm : Int} (h1 : 1 ≤ tm) (h2 : tm ≤ 20) (h3 : 0 ≤ ag) (h4 : ag ≤ 1048576) : youngS (goS ag tm) = goS 0 tm := by
  unfold youngS
  rw [if_pos (mayS_go h1 h2 h3 h4)]
  refine sta_ext rfl (fun k => ?_) (fun _ => rfl)
  show (if k < 3 then ({ (goS ag tm).tid k with ag := 0 } : Co) else (goS ag tm).tid k) = _
  by_cases hk : k = 1
  · rw [hk, if_pos (by omega)]; rfl
  · have e : ∀ n, (goS n tm).tid k = Co0 := fun n => if_neg hk
    rw [e, e]
    split <;> rfl
theorem due_35 : dueS (goS 3 5) = [] := by
  unfold dueS; rw [if_pos (mayS_go (by decide) (by decide) (by decide) (by decide))]; rfl
theorem due_55 : dueS (goS 5 5) = [1] := by
  unfold dueS; rw [if_pos (mayS_go (by decide) (by decide) (by decide) (by decide))]; rfl
theorem old_35 : oldF (goS 3 5) 3 = some 1 := rfl
theorem left_35 : leftS (goS 3 5) 1 = 2 := by
  unfold leftS; rw [if_pos ⟨by decide, by decide, mayS_go (by decide) (by decide) (by decide) (by decide), rfl⟩]; rfl
theorem young_35 : youngS (goS 3 5) = goS 0 5 := youngS_go (by decide) (by decide) (by decide) (by decide)
theorem tick_35 : tickS (goS 3 5) = goS 4 5 := tickS_go (by decide) (by decide) (by decide) (by decide)
theorem tick_45 : tickS (goS 4 5) = goS 5 5 := tickS_go (by decide) (by decide) (by decide) (by decide)
section
attribute [-go_sem] loadCells storeVar Instr.build
set_option maxRecDepth 100000 in
theorem ret_going (X : Array Value) (tmps : Array Value) (b : Nat) (W : World) (h2 : tmps[4]?.getD undef = .pointer (some ⟨b, 0, none⟩)) (hK : Blk W b 31 X) (hX : X.size = 31) :
    (results Try.f24 tmps).run Try.prog W = .ok (.agg X) W := by
  have LC := bk_load (P := Try.prog) 31 hK hX
  clear hK
  simp [results, Try.results24, go_sem, h2, LC]
set_option maxRecDepth 100000 in
set_option maxHeartbeats 4000000 in
theorem going_any (ag tm : Int) (w : World) :
    Calls Try.prog 24 #[.int .i64 ag, .int .i64 tm] w (StPost (goS ag tm) w) := by
  obtain ⟨W0, hW0⟩ : ∃ W0, W0 = w.alloc (.cells #[.int .i64 0, .int .i8 0, .int .i64 0, .int .i64 0, .int .i64 0, .int .i64 0, .slice none 0 0, .slice none 0 0, .int .i64 0, .int .i8 0, .int .i64 0, .int .i64 0, .int .i64 0, .int .i64 0, .slice none 0 0, .slice none 0 0, .int .i64 0, .int .i8 0, .int .i64 0, .int .i64 0, .int .i64 0, .int .i64 0, .slice none 0 0, .slice none 0 0, .int .i64 0, .int .i64 0, .int .i64 0, .int .i64 0, .int .i64 0, .int .i64 0, .int .i64 0] 31) := ⟨_, rfl⟩
  have B0 : Below w.heap.size w W0 := by rw [hW0]; exact bal (Below.refl _ _) _
  have K1 : Blk W0 w.heap.size 31 #[.int .i64 0, .int .i8 0, .int .i64 0, .int .i64 0, .int .i64 0, .int .i64 0, .slice none 0 0, .slice none 0 0, .int .i64 0, .int .i8 0, .int .i64 0, .int .i64 0, .int .i64 0, .int .i64 0, .slice none 0 0, .slice none 0 0, .int .i64 0, .int .i8 0, .int .i64 0, .int .i64 0, .int .i64 0, .int .i64 0, .slice none 0 0, .slice none 0 0, .int .i64 0, .int .i64 0, .int .i64 0, .int .i64 0, .int .i64 0, .int .i64 0, .int .i64 0] := by rw [hW0]; exact Blk.new w 31 #[.int .i64 0, .int .i8 0, .int .i64 0, .int .i64 0, .int .i64 0, .int .i64 0, .slice none 0 0, .slice none 0 0, .int .i64 0, .int .i8 0, .int .i64 0, .int .i64 0, .int .i64 0, .int .i64 0, .slice none 0 0, .slice none 0 0, .int .i64 0, .int .i8 0, .int .i64 0, .int .i64 0, .int .i64 0, .int .i64 0, .slice none 0 0, .slice none 0 0, .int .i64 0, .int .i64 0, .int .i64 0, .int .i64 0, .int .i64 0, .int .i64 0, .int .i64 0]
  have HW := Lib.hid hW0
  have HB := Lib.hid B0
  have HK := Lib.hid K1
  have FI := Lib.hid (rFirst_any W0)
  clear hW0 B0 K1
  go_enter Try.func24, Try.ntmps24
  go_upto_region 1 with (fail)
  rw [← HW.out]
  go_wp2_with fail
  refine FI.out.mono ?_
  rintro e w1 ⟨rfl, b1⟩
  obtain ⟨W2, st2, k2, b2, s2⟩ := bk_fresh (P := Try.prog) w1 31 #[.int .i64 0, .int .i8 0, .int .i64 0, .int .i64 0, .int .i64 0, .int .i64 0, .slice none 0 0, .slice none 0 0, .int .i64 0, .int .i8 0, .int .i64 0, .int .i64 0, .int .i64 0, .int .i64 0, .slice none 0 0, .slice none 0 0, .int .i64 0, .int .i8 0, .int .i64 0, .int .i64 0, .int .i64 0, .int .i64 0, .slice none 0 0, .slice none 0 0, .int .i64 0, .int .i64 0, .int .i64 0, .int .i64 0, .int .i64 0, .int .i64 0, .int .i64 0] (stX sta0 sad0) 31 infoSta rfl rfl (stX_one _ _)
  have B2 := Lib.hid (b1.trans (b2.mono b1.size))
  have y0 := st_made k2
  have z0 := k2.frozen 0
  have st3 := store_intS 1 y0 z0
  have k3 := st_setmade k2 1
  have b3 := (b2.setCell (p := ⟨w1.heap.size, 0, none⟩) (Nat.le_refl _) (.int .i64 1))
  have K3 := Lib.hid k3
  have B3 := Lib.hid (b1.trans (b3.mono b1.size))
  have S1 := Lib.hid b1.size
  clear b1 k2 b2 s2 k3 b3 y0 z0
  go_upto_region 3 with (fail)
  clear st2 st3
  generalize W2.setCell ⟨w1.heap.size, 0, none⟩ (.int .i64 1) = W3 at *
  have bd : ∀ W, (Instr.build 26 #[(0, .int .i8 2), (1, .int .i64 1), (3, .int .i64 tm), (5, .slice (some ⟨W3.heap.size, 0, none⟩) 1 1), (7, .int .i64 ag)]).run Try.prog W = .ok (.agg #[.int .i8 2, .int .i64 1, .int .i64 0, .int .i64 tm, .int .i64 0, .slice (some ⟨W3.heap.size, 0, none⟩) 1 1, .slice none 0 0, .int .i64 ag]) W := fun W => run_build W 26 _ _ (by kernel_rfl)
  have hk4 : Blk (W3.alloc (.cells #[.int .i64 0] 3)) w1.heap.size 31 (stX { sta0 with made := 1 } sad0) := K3.out.alloc _
  have rr := reads_newS W3 3 [0]
  obtain ⟨W5, st5, k5, fb5, fh5, fs5⟩ := st_put hk4 1 (by decide) (goC ag tm) (some ⟨W3.heap.size, 0, none⟩) none 1 0
  have st5' : (storeVar 26 ⟨w1.heap.size, 9, none⟩ (.agg #[.int .i8 2, .int .i64 1, .int .i64 0, .int .i64 tm, .int .i64 0, .slice (some ⟨W3.heap.size, 0, none⟩) 1 1, .slice none 0 0, .int .i64 ag])).run Try.prog (W3.alloc (.cells #[.int .i64 0] 3)) = .ok () W5 := st5
  have hlt3 := K3.out.lt
  have r5 : Reads W5 W5.heap.size 1 (some ⟨W3.heap.size, 0, none⟩) 1 (cellsI .i64 [0]) := by
    rw [fs5, World.size_alloc]
    exact reads_keepS rr (fun _ ad e => fh5 _ (by injection e with e; rw [← e]; show W3.heap.size ≠ w1.heap.size; omega))
  have L31 := st_load k5
  have b5 : Below W0.heap.size W0 W5 := fb5 W0.heap.size W0 S1.out (bal B3.out _)
  obtain ⟨W9, st9, kk, fb, fh, fsz⟩ := bk_store (P := Try.prog) (ty := 31) (cs := stX (goS ag tm) (sad0.put 1 (some ⟨W3.heap.size, 0, none⟩) none 1 0)) 31 (HK.out.below b5 HK.out.lt) infoSta rfl rfl (stX_one _ _)
  have BB := Lib.hid (fb w.heap.size w (Nat.le_refl _) (HB.out.trans (b5.mono HB.out.size)))
  have KK := Lib.hid kk
  have hlt0 := HK.out.lt
  have RR := Lib.hid (show StR W9 W9.heap.size (goS ag tm) (sad0.put 1 (some ⟨W3.heap.size, 0, none⟩) none 1 0) from fun k hk => by
    match k, hk with
    | 0, _ => exact CoR.zero _ _ _ _
    | 1, _ =>
      refine ⟨?_, Reads.none_, by show (1 : Nat) ≤ 1000; decide, by show (0 : Nat) ≤ 1000; decide⟩
      rw [fsz]
      exact reads_keepS r5 (fun _ ad e => fh _ (by injection e with e; rw [← e]; show W3.heap.size ≠ w.heap.size; have := S1.out; omega))
    | 2, _ => exact CoR.zero _ _ _ _)
  have L31' : (loadCells ⟨w1.heap.size, 0, none⟩ 31).run Try.prog W5 = .ok (stX (goS ag tm) (sad0.put 1 (some ⟨W3.heap.size, 0, none⟩) none 1 0)) W5 := L31
  clear hk4 rr st5 k5 fb5 fh5 fs5 r5 L31 b5 kk fb fh fsz hlt0 hlt3
  go_wp2_with fail
  refine bodyPost_ret (v := .agg (stX (goS ag tm) (sad0.put 1 (some ⟨W3.heap.size, 0, none⟩) none 1 0))) (ret_going _ _ w.heap.size _ rfl KK.out rfl) rfl ?_
  exact ⟨_, rfl, RR.out, BB.out⟩
end
end Go.Proofs.Ytagclnmchkgpdaa
namespace Go.Proofs.Ytagclnmchkgpdaa
open Go.RowKit
set_option maxRecDepth 100000 in
set_option maxHeartbeats 4000000 in
theorem Ints_any (l1 l2 : List Int) (A1 A2 : Option Addr) (c1 c2 B1 B2 : Nat) (w : World) (h1 : Reads w B1 1 A1 l1.length (cellsI .i64 l1)) (h2 : Reads w B2 1 A2 l2.length (cellsI .i64 l2)) (hB1 : B1 ≤ w.heap.size) (hB2 : B2 ≤ w.heap.size) (hn : l1.length ≤ 1000000) :
    Calls Try.prog 17 #[.slice A1 l1.length c1, .slice A2 l2.length c2] w fun e w' => e = .returned (.bool (decide (l1 = l2))) ∧ Below w.heap.size w w' := by
  have H1 := Lib.hid h1
  have H2 := Lib.hid h2
  have HB := Lib.hid (And.intro hB1 hB2)
  clear h1 h2 hB1 hB2
  by_cases hl : l1.length = l2.length
  · have dl : ((l1.length : Int) != (l2.length : Int)) = false := by simp [hl]
    have HL := Lib.hid hl
    clear hl
    go_enter Try.func17, Try.ntmps17
    go_wp2_with fail
    go_loopg [5] l1.length (fun mm yK wq => ∃ (k : Nat), k ≤ l1.length ∧ yK = .int .i64 k ∧ mm = l1.length - k ∧ l1.take k = l2.take k ∧ Below w.heap.size w wq)
    case atStart => exact ⟨0, Nat.zero_le _, rfl, by omega, rfl, Below.refl _ _⟩
    case round =>
      obtain ⟨k, hk, rfl, hmm, htk, hbw⟩ := hrel
      have HMM := Lib.hid hmm
      have HT := Lib.hid htk
      have BW' := Lib.hid hbw
      clear hmm htk hbw
      by_cases hlt : k < l1.length
      · have d3 : decide ((k : Int) < (l1.length : Int)) = true := decide_eq_true (by omega)
        have i1 : (0 : Int) ≤ (k : Int) := by omega
        have i2 : (k : Int) < (l1.length : Int) := by omega
        have i3 : (k : Int) < (l2.length : Int) := by have := HL.out; omega
        obtain ⟨x, hx⟩ : ∃ x, l1[k]? = some x := ⟨_, List.getElem?_eq_getElem hlt⟩
        obtain ⟨y, hy⟩ : ∃ y, l2[k]? = some y := ⟨_, List.getElem?_eq_getElem (by have := HL.out; omega)⟩
        obtain ⟨b1, o1, rfl, hb1, hc1⟩ := H1.out.plain (by omega)
        obtain ⟨b2, o2, rfl, hb2, hc2⟩ := H2.out.plain (by have := HL.out; omega)
        have cx : ∀ n : BW wr.heap.size wr, n.1.cell? ⟨b1, o1 + k, none⟩ = some (.int .i64 x) := fun n => by
          rw [n.2.cell (by show b1 < wr.heap.size; have := HB.out.1; have := BW'.out.size; omega), BW'.out.cell (by show b1 < w.heap.size; have := HB.out.1; omega)]
          exact hc1 k _ (by rw [getElem?_cellsI, hx]; rfl)
        have cy : ∀ n : BW wr.heap.size wr, n.1.cell? ⟨b2, o2 + k, none⟩ = some (.int .i64 y) := fun n => by
          rw [n.2.cell (by show b2 < wr.heap.size; have := HB.out.2; have := BW'.out.size; omega), BW'.out.cell (by show b2 < w.heap.size; have := HB.out.2; omega)]
          exact hc2 k _ (by rw [getElem?_cellsI, hy]; rfl)
        obtain ⟨u, hu⟩ : ∃ u, (x != y) = u := ⟨_, rfl⟩
        have HX := Lib.hid (show x ∈ l1 ∧ l1.take (k + 1) = l1.take k ++ [x] ∧ l2.take (k + 1) = l2.take k ++ [y] from ⟨List.mem_of_getElem? hx, by rw [List.take_add_one, hx]; rfl, by rw [List.take_add_one, hy]; rfl⟩)
        have HNE := Lib.hid (show x ≠ y → l1 ≠ l2 from fun h e => h (by rw [e, hy] at hx; exact (Option.some.inj hx).symm))
        have HU := Lib.hid hu
        clear hc1 hc2 hx hy
        go_wp2_with fail
        refine wp_region_bq wr.heap.size (by kernel_rfl) (by kernel_rfl) ?_
        repeat (go_big_quiet_step (fail))
        refine wpQuiet_nil ?_
        rintro _ ⟨n, rfl⟩
        have BN := Lib.hid n.2
        clear cx cy
        cases u
        · go_wp2_with fail
          go_roundg (gk - 1)
          case measure => have := HMM.out; omega
          case rel =>
            refine ⟨k + 1, by omega, by go_num, by have := HMM.out; omega, ?_, BW'.out.trans (BN.out.mono BW'.out.size)⟩
            have := HU.out
            have e : x = y := by simpa using this
            rw [HX.out.2.1, HX.out.2.2, HT.out, e]
        · have HF := Lib.hid (show decide (l1 = l2) = false from decide_eq_false (HNE.out (by have := HU.out; simpa using this)))
          go_wp2_with fail
          go_ret
          rw [HF.out]
          exact ⟨rfl, BW'.out.trans (BN.out.mono BW'.out.size)⟩
      · obtain rfl : k = l1.length := by omega
        have d3 : decide ((l1.length : Int) < (l1.length : Int)) = false := by simp
        have HF := Lib.hid (show decide (l1 = l2) = true from decide_eq_true (by
          have := HT.out
          rw [List.take_length, HL.out, List.take_length] at this
          exact this))
        go_wp2_with fail
        go_ret
        rw [HF.out]
        exact ⟨rfl, BW'.out⟩
  · have dl : ((l1.length : Int) != (l2.length : Int)) = true := by simp; omega
    have HF := Lib.hid (show decide (l1 = l2) = false from decide_eq_false (fun e => hl (by rw [e])))
    clear hl
    go_enter Try.func17, Try.ntmps17
    go_wp2_with fail
    go_ret
    rw [HF.out]
    exact ⟨rfl, Below.refl _ _⟩
section
attribute [-go_sem] loadCells storeVar
set_option maxRecDepth 100000 in
set_option maxHeartbeats 8000000 in
theorem wakes21 (w : World) : Calls Try.prog 9 #[] w fun e w' => e = .returned (.bool true) ∧ Below w.heap.size w w' := by
  have G0 := Lib.hid (going_any 3 5 w)
  go_enter Try.func9, Try.ntmps9
  go_wp2_with fail
  refine G0.out.mono ?_
  rintro e w1 ⟨a, rfl, r1, b1⟩
  obtain ⟨W2, st2, k2, b2, s2⟩ := bk_fresh (P := Try.prog) w1 31 #[.int .i64 0, .int .i8 0, .int .i64 0, .int .i64 0, .int .i64 0, .int .i64 0, .slice none 0 0, .slice none 0 0, .int .i64 0, .int .i8 0, .int .i64 0, .int .i64 0, .int .i64 0, .int .i64 0, .slice none 0 0, .slice none 0 0, .int .i64 0, .int .i8 0, .int .i64 0, .int .i64 0, .int .i64 0, .int .i64 0, .slice none 0 0, .slice none 0 0, .int .i64 0, .int .i64 0, .int .i64 0, .int .i64 0, .int .i64 0, .int .i64 0, .int .i64 0] (stX (goS 3 5) a) 31 infoSta rfl rfl (stX_one _ _)
  have L2 := st_load k2
  have K2 := Lib.hid k2
  have R2 := Lib.hid (r1.up b2)
  have B2 := Lib.hid (b1.trans (b2.mono b1.size))
  have T1 := Lib.hid (cTick_any (goS 3 5) a W2 (r1.up b2))
  rw [tick_35] at T1
  clear b1 k2 b2 s2 r1
  go_wp2_with fail
  refine T1.out.mono ?_
  rintro e w3 ⟨c, rfl, r3, b3⟩
  have T2 := Lib.hid (cTick_any (goS 4 5) c w3 r3)
  rw [tick_45] at T2
  have B3 := Lib.hid b3
  clear b3 r3
  go_wp2_with fail
  refine T2.out.mono ?_
  rintro e w4 ⟨d, rfl, r4, b4⟩
  obtain ⟨W5, st5, k5, b5, s5⟩ := bk_fresh (P := Try.prog) w4 31 #[.int .i64 0, .int .i8 0, .int .i64 0, .int .i64 0, .int .i64 0, .int .i64 0, .slice none 0 0, .slice none 0 0, .int .i64 0, .int .i8 0, .int .i64 0, .int .i64 0, .int .i64 0, .int .i64 0, .slice none 0 0, .slice none 0 0, .int .i64 0, .int .i8 0, .int .i64 0, .int .i64 0, .int .i64 0, .int .i64 0, .slice none 0 0, .slice none 0 0, .int .i64 0, .int .i64 0, .int .i64 0, .int .i64 0, .int .i64 0, .int .i64 0, .int .i64 0] (stX (goS 5 5) d) 31 infoSta rfl rfl (stX_one _ _)
  have L5 := st_load k5
  have B5 := Lib.hid (B3.out.trans ((b4.trans (b5.mono b4.size)).mono B3.out.size))
  have D5 := Lib.hid (cDue_any (goS 5 5) d W5 (r4.up b5))
  rw [due_55] at D5
  clear b4 k5 b5 s5 r4
  go_wp2_with fail
  refine D5.out.mono ?_
  rintro e w6 ⟨A6, c6, rfl, r6, b6⟩
  have R6 := Lib.hid r6
  have B6 := Lib.hid (B5.out.trans (b6.mono B5.out.size))
  have K6 := K2.out.below B6.out K2.out.lt
  have L6 := st_load K6
  have O6 := Lib.hid (cOld_any (goS 3 5) a w6)
  rw [old_35] at O6
  clear b6 r6 L2 L5 K6
  go_wp2_with fail
  refine O6.out.mono ?_
  rintro e w7 ⟨rfl, b7⟩
  have B7 := Lib.hid (B6.out.trans (b7.mono B6.out.size))
  have R7 := Lib.hid ((R6.out.below b7).more b7.size)
  have K7 := K2.out.below B7.out K2.out.lt
  have L7 := st_load K7
  have F7 := Lib.hid (cLeft_any (goS 3 5) a 1 w7 (R2.out.up B7.out))
  rw [left_35] at F7
  clear b7 L6 K7
  go_wp2_with fail
  refine F7.out.mono ?_
  rintro e w8 ⟨rfl, b8⟩
  have B8 := Lib.hid (B7.out.trans (b8.mono B7.out.size))
  have R8 := Lib.hid ((R7.out.below b8).more b8.size)
  have K8 := K2.out.below B8.out K2.out.lt
  have L8 := st_load K8
  have F8 := Lib.hid (cDue_any (goS 3 5) a w8 (R2.out.up B8.out))
  rw [due_35] at F8
  clear b8 L7 K8
  go_wp2_with fail
  refine F8.out.mono ?_
  rintro e w9 ⟨A9, c9, rfl, r9, b9⟩
  have B9 := Lib.hid (B8.out.trans (b9.mono B8.out.size))
  have R9 := Lib.hid ((R8.out.below b9).more b9.size)
  have K9 := K2.out.below B9.out K2.out.lt
  have L9 := st_load K9
  have F9 := Lib.hid (cYoung_any (goS 3 5) a w9 (R2.out.up B9.out))
  rw [young_35] at F9
  obtain ⟨bb, oo, hA6, hbb, hcc⟩ := R9.out.plain (by decide)
  subst hA6
  have e9 : w9.cell? ⟨bb, oo, none⟩ = some (.int .i64 1) := hcc 0 _ rfl
  clear b9 r9 L8 K9 hcc
  go_wp2_with fail
  refine F9.out.mono ?_
  rintro e w10 ⟨f, rfl, r10, b10⟩
  have fl : ∀ W, (Instr.field 31 (.agg (stX (goS 0 5) f)) 1).run Try.prog W = .ok (.agg (tidX (goS 0 5) f)) W := fun W => by kernel_rfl
  have ix := st_index1 (goS 0 5) f
  have f7 : ∀ W, (Instr.field 26 (.agg #[.int .i8 ((goS 0 5).tid 1).st, .int .i64 ((goS 0 5).tid 1).pid, .int .i64 ((goS 0 5).tid 1).ep, .int .i64 ((goS 0 5).tid 1).tm, .int .i64 ((goS 0 5).tid 1).th, .slice (f.A 1) ((goS 0 5).tid 1).ps.length (f.c 1), .slice (f.D 1) ((goS 0 5).tid 1).qs.length (f.e 1), .int .i64 ((goS 0 5).tid 1).ag]) 7).run Try.prog W = .ok (.int .i64 0) W := fun W => by kernel_rfl
  have B10 := Lib.hid (B2.out.trans ((B9.out.trans (b10.mono B9.out.size)).mono B2.out.size))
  clear b10 r10 L9 e9
  go_wp2_with fail
  go_ret
  exact ⟨rfl, B10.out⟩
end
end Go.Proofs.Ytagclnmchkgpdaa
namespace Go.Proofs.Ytagclnmchkgpdaa
open Go.RowKit
theorem sameS_refl (s : Sta) : sameS s s = true := by
  unfold sameS grsB
  simp [sameB_refl]
/-- A state as it is handed in: its lists, however long. -/
def StRaw (w : World) (s : Sta) (a : Sad) : Prop := ∀ k, k < 3 → Reads w w.heap.size 1 (a.A k) (s.tid k).ps.length (cellsI .i64 (s.tid k).ps) ∧ Reads w w.heap.size 3 (a.D k) (s.tid k).qs.length (cellsP (s.tid k).qs) ∧ -128 ≤ (s.tid k).st ∧ (s.tid k).st ≤ 127
theorem StRaw.small {w : World} {s : Sta} {a : Sad} (h : StRaw w s a) (hb : bigS s = false) : StR w w.heap.size s a := fun k hk => ⟨(h k hk).1, (h k hk).2.1, by have := (bigS_no hb k hk).1; omega, by have := (bigS_no hb k hk).2; omega⟩
theorem StRaw.num {w : World} {s : Sta} {a : Sad} (h : StRaw w s a) : StB s := fun k hk => (h k hk).2.2
end Go.Proofs.Ytagclnmchkgpdaa
