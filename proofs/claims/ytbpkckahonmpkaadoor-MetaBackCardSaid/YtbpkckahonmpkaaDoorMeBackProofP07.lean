/-
  Layer 18: copies of a transactional id that own their lists.
  Layer 20: a state's own copy; the code of an error.
  Layer 19, in plain words: an entry of a coordinator's log; its cells as an array that stays shut.
  Words for copies inside a block that is known whole, elements of any size: what copy(d, s) leaves. slices.Insert of one element.
  A world that is as another one was but for some blocks that were there.
-/
import Derived.Test.YtbpkckahonmpkaaDoorMeBackProofP06
import Derived.Deep.LoopGhost
import Derived.Lib.AppendZerosOnto
import Derived.Lib.Overlaps
import Derived.Laws.Externs
import Derived.Laws.CopyRow
import Derived.Laws.NewBlocks
import Derived.Laws.IdiomCopy
import Derived.Lib.AppendZeros
import Derived.Shelf.Spec.SlicesInsert
set_option linter.unusedVariables false
set_option linter.unusedSimpArgs false
namespace Go.Proofs.YtbpkckahonmpkaaDoor
open Go.RowKit
def Sad.setA (a : Sad) (k : Nat) (A : Option Addr) (c : Nat) : Sad := ⟨fun j => if j = k then A else a.A j, a.D, fun j => if j = k then c else a.c j, a.e⟩
def Sad.setD (a : Sad) (k : Nat) (D : Option Addr) (e : Nat) : Sad := ⟨a.A, fun j => if j = k then D else a.D j, a.c, fun j => if j = k then e else a.e j⟩
theorem store_sliI {W : World} {a : Addr} {u : Value} (A : Option Addr) (n c : Nat) (h : W.cell? a = some u) (hf : W.frozen? a = false) : (storeVar 23 a (.slice A n c)).run Tryd.prog W = .ok () (W.setCell a (.slice A n c)) := by
  simp [go_sem, h, hf]
theorem store_sliP {W : World} {a : Addr} {u : Value} (A : Option Addr) (n c : Nat) (h : W.cell? a = some u) (hf : W.frozen? a = false) : (storeVar 24 a (.slice A n c)).run Tryd.prog W = .ok () (W.setCell a (.slice A n c)) := by
  simp [go_sem, h, hf]
theorem st_putA {W : World} {b : Nat} {t : TypeId} {s : Sta} {a : Sad} (h : Blk W b t (stX s a)) (k : Nat) (hk : k < 3) (A5 : Option Addr) (c5 : Nat) :
    ∃ W', (storeVar 23 ⟨b, 1 + k * 8 + 5, none⟩ (.slice A5 (s.tid k).ps.length c5)).run Tryd.prog W = .ok () W' ∧ Blk W' b t (stX s (a.setA k A5 c5)) ∧ (∀ m (w : World), m ≤ b → Below m w W → Below m w W') ∧ (∀ y, y ≠ b → W'.heap[y]? = W.heap[y]?) ∧ W'.heap.size = W.heap.size := by
  obtain ⟨h1, h2⟩ := blk_is h (j := 1 + k * 8 + 5) (by rw [stX_size]; omega)
  obtain ⟨u, hu⟩ := Option.isSome_iff_exists.1 h1
  refine ⟨_, store_sliI A5 _ c5 hu h2, ?_, fun m w hb hB => hB.setCell (p := ⟨b, 1 + k * 8 + 5, none⟩) hb _, fun y hy => Below.heap_setCell _ _ _ _ hy, by simp [World.setCell]⟩
  have e : (stX s a).setIfInBounds (1 + k * 8 + 5) (.slice A5 (s.tid k).ps.length c5) = stX s (a.setA k A5 c5) := by
    unfold stX
    rw [List.setIfInBounds_toArray]
    match k, hk with
    | 0, _ => rfl
    | 1, _ => rfl
    | 2, _ => rfl
  rw [← e]
  exact h.set_ _ _
theorem st_putD {W : World} {b : Nat} {t : TypeId} {s : Sta} {a : Sad} (h : Blk W b t (stX s a)) (k : Nat) (hk : k < 3) (A5 : Option Addr) (c5 : Nat) :
    ∃ W', (storeVar 24 ⟨b, 1 + k * 8 + 6, none⟩ (.slice A5 (s.tid k).qs.length c5)).run Tryd.prog W = .ok () W' ∧ Blk W' b t (stX s (a.setD k A5 c5)) ∧ (∀ m (w : World), m ≤ b → Below m w W → Below m w W') ∧ (∀ y, y ≠ b → W'.heap[y]? = W.heap[y]?) ∧ W'.heap.size = W.heap.size := by
  obtain ⟨h1, h2⟩ := blk_is h (j := 1 + k * 8 + 6) (by rw [stX_size]; omega)
  obtain ⟨u, hu⟩ := Option.isSome_iff_exists.1 h1
  refine ⟨_, store_sliP A5 _ c5 hu h2, ?_, fun m w hb hB => hB.setCell (p := ⟨b, 1 + k * 8 + 6, none⟩) hb _, fun y hy => Below.heap_setCell _ _ _ _ hy, by simp [World.setCell]⟩
  have e : (stX s a).setIfInBounds (1 + k * 8 + 6) (.slice A5 (s.tid k).qs.length c5) = stX s (a.setD k A5 c5) := by
    unfold stX
    rw [List.setIfInBounds_toArray]
    match k, hk with
    | 0, _ => rfl
    | 1, _ => rfl
    | 2, _ => rfl
  rw [← e]
  exact h.set_ _ _
set_option maxHeartbeats 1000000 in
theorem mcode_fault (b : Nat) (n : Int) (w : World) (hg : HasET w) (hb1 : w.cell? ⟨b, 1, none⟩ = some (.int .i64 n)) :
    Calls Tryd.prog 30 #[.iface 65 (.pointer (some ⟨b, 0, none⟩))] w fun e w' => e = .returned (.int .i64 n) ∧ Below w.heap.size w w' := by
  have hg1 : HasET (w.alloc (.cells #[.int .i64 0] 39)) := hg.up (bal (Below.refl _ _) _)
  have hb2 := (World.cell?_alloc_lt w (.cells #[.int .i64 0] 39) ⟨b, 1, none⟩ (cell_lt hb1)).trans hb1
  have HIS := Lib.hid (ErMt.is_any b n 2 (w.alloc (.cells #[.int .i64 0] 39)) hb2)
  have HAS := Lib.hid (ErMt.as_any b w.heap.size n (.int .i64 0) (w.alloc (.cells #[.int .i64 0] 39)) hg1 hb2 (by simp) (by simp))
  have HB := Lib.hid (fun x => bal (Below.refl w.heap.size w) x)
  have HC := Lib.hid (asW_cell w n)
  have HAB := Lib.hid (asW_below w n)
  clear hg1 hb2 hb1 hg
  by_cases h2 : n = 2
  · subst h2
    go_enter Tryd.func30, Tryd.ntmps30
    go_wp2_with (go_at_call 50; refine HIS.out.mono ?_; rintro e w1 ⟨rfl, rfl⟩)
    go_ret
    exact ⟨rfl, HB.out _⟩
  · have d2 : (n == 2) = false := eqb_false h2
    go_enter Tryd.func30, Tryd.ntmps30
    go_wp2_with (first | (go_at_call 50; refine HIS.out.mono ?_; rintro e w1 ⟨rfl, rfl⟩) | (go_at_call 51; refine HAS.out.mono ?_; rintro e w1 ⟨rfl, hw1⟩; have hc1 : w1.cell? ⟨w.heap.size, 0, none⟩ = some (.int .i64 n) := (by rw [← hw1]; exact HC.out); have HW1 := Lib.hid hw1; clear hw1))
    go_ret
    exact ⟨rfl, by rw [← HW1.out]; exact HAB.out⟩
section
attribute [-go_sem] loadCells storeVar
set_option maxRecDepth 100000 in
theorem mown_ret (X : Array Value) (tmps : Array Value) (b : Nat) (W : World) (h2 : tmps[2]?.getD undef = .pointer (some ⟨b, 0, none⟩)) (hK : Blk W b 31 X) (hX : X.size = 31) :
    (results Tryd.f28 tmps).run Tryd.prog W = .ok (.agg X) W := by
  have LC := bk_load (P := Tryd.prog) 31 hK hX
  clear hK
  simp [results, Tryd.results28, go_sem, h2, LC]
set_option maxRecDepth 100000 in
set_option maxHeartbeats 8000000 in
theorem mown_any (s : Sta) (a : Sad) (w : World) (h : StR w w.heap.size s a) :
    Calls Tryd.prog 28 #[.agg (stX s a)] w (StNew s w) := by
  obtain ⟨W0, hW0⟩ : ∃ W0, W0 = (w.alloc (.cells (stX s a) 31)).alloc (.cells #[.int .i64 0, .int .i8 0, .int .i64 0, .int .i64 0, .int .i64 0, .int .i64 0, .slice none 0 0, .slice none 0 0, .int .i64 0, .int .i8 0, .int .i64 0, .int .i64 0, .int .i64 0, .int .i64 0, .slice none 0 0, .slice none 0 0, .int .i64 0, .int .i8 0, .int .i64 0, .int .i64 0, .int .i64 0, .int .i64 0, .slice none 0 0, .slice none 0 0, .int .i64 0, .int .i64 0, .int .i64 0, .int .i64 0, .int .i64 0, .int .i64 0, .int .i64 0] 31) := ⟨_, rfl⟩
  have s0 : W0.heap.size = w.heap.size + 1 + 1 := by rw [hW0]; simp
  have B0 : Below w.heap.size w W0 := by rw [hW0]; exact bal (bal (Below.refl _ _) _) _
  have K1 : Blk W0 w.heap.size 31 (stX s a) := by rw [hW0]; exact (Blk.new w 31 (stX s a)).alloc _
  have K2 : Blk W0 (w.heap.size + 1) 31 #[.int .i64 0, .int .i8 0, .int .i64 0, .int .i64 0, .int .i64 0, .int .i64 0, .slice none 0 0, .slice none 0 0, .int .i64 0, .int .i8 0, .int .i64 0, .int .i64 0, .int .i64 0, .int .i64 0, .slice none 0 0, .slice none 0 0, .int .i64 0, .int .i8 0, .int .i64 0, .int .i64 0, .int .i64 0, .int .i64 0, .slice none 0 0, .slice none 0 0, .int .i64 0, .int .i64 0, .int .i64 0, .int .i64 0, .int .i64 0, .int .i64 0, .int .i64 0] := by rw [hW0]; exact bk_new _ 31 #[.int .i64 0, .int .i8 0, .int .i64 0, .int .i64 0, .int .i64 0, .int .i64 0, .slice none 0 0, .slice none 0 0, .int .i64 0, .int .i8 0, .int .i64 0, .int .i64 0, .int .i64 0, .int .i64 0, .slice none 0 0, .slice none 0 0, .int .i64 0, .int .i8 0, .int .i64 0, .int .i64 0, .int .i64 0, .int .i64 0, .slice none 0 0, .slice none 0 0, .int .i64 0, .int .i64 0, .int .i64 0, .int .i64 0, .int .i64 0, .int .i64 0, .int .i64 0] (by simp)
  have HW := Lib.hid hW0
  have HS := Lib.hid s0
  have HB := Lib.hid B0
  have HK := Lib.hid K1
  have HK2 := Lib.hid K2
  have H := Lib.hid h
  have x0 := st_tids K1
  clear hW0 s0 B0 K1 K2 h
  go_enter Tryd.func28, Tryd.ntmps28
  go_upto_region 1 with (fail)
  rw [← HW.out]
  go_wp2_with fail
  clear x0
  go_loopg [7] 3 (fun mm y wq => ∃ (k : Nat) (c : Sad), k ≤ 3 ∧ y = .int .i64 k ∧ mm = 3 - k ∧ Blk wq w.heap.size 31 (stX s c) ∧ Blk wq (w.heap.size + 1) 31 #[.int .i64 0, .int .i8 0, .int .i64 0, .int .i64 0, .int .i64 0, .int .i64 0, .slice none 0 0, .slice none 0 0, .int .i64 0, .int .i8 0, .int .i64 0, .int .i64 0, .int .i64 0, .int .i64 0, .slice none 0 0, .slice none 0 0, .int .i64 0, .int .i8 0, .int .i64 0, .int .i64 0, .int .i64 0, .int .i64 0, .slice none 0 0, .slice none 0 0, .int .i64 0, .int .i64 0, .int .i64 0, .int .i64 0, .int .i64 0, .int .i64 0, .int .i64 0] ∧ Below w.heap.size w wq ∧ w.heap.size + 1 + 1 ≤ wq.heap.size ∧ (∀ j, j < k → CoR wq wq.heap.size (s.tid j) (c.A j) (c.D j) ∧ NewAt (w.heap.size + 1 + 1) (s.tid j).ps.length (c.A j) ∧ NewAt (w.heap.size + 1 + 1) (s.tid j).qs.length (c.D j)))
  case atStart => exact ⟨0, a, by omega, rfl, rfl, HK.out, HK2.out, HB.out, by have := HS.out; omega, fun j hj => by omega⟩
  case round =>
    obtain ⟨k, c, hk, rfl, hmm, hk1, hk2, hbw, hsz, hl⟩ := hrel
    have HMM := Lib.hid hmm
    have K1 := Lib.hid hk1
    have K2 := Lib.hid hk2
    have BW' := Lib.hid hbw
    have SZ := Lib.hid hsz
    have HL := Lib.hid hl
    clear hmm hk1 hk2 hbw hsz hl
    by_cases hlt : k < 3
    · have d3 : decide ((k : Int) < 3) = true := decide_eq_true (by omega)
      have i1 : (0 : Int) ≤ (k : Int) := by omega
      have i2 : (k : Int) < 3 := by omega
      have ix := st_index s a k hlt wr
      obtain ⟨W2, st2, k2, b2, s2⟩ := bk_fresh (P := Tryd.prog) wr 26 #[.int .i8 0, .int .i64 0, .int .i64 0, .int .i64 0, .int .i64 0, .slice none 0 0, .slice none 0 0, .int .i64 0] #[.int .i8 (s.tid k).st, .int .i64 (s.tid k).pid, .int .i64 (s.tid k).ep, .int .i64 (s.tid k).tm, .int .i64 (s.tid k).th, .slice (a.A k) (s.tid k).ps.length (a.c k), .slice (a.D k) (s.tid k).qs.length (a.e k), .int .i64 (s.tid k).ag] 8 infoCoS rfl rfl (by simp [Value.oneCell'])
      have y5 := k2.cell 5
      have BW2 := Lib.hid (BW'.out.trans (b2.mono BW'.out.size))
      have hcr := (H.out k hlt).below BW2.out
      have hm2 := BW2.out.size
      have CI := Lib.hid (CloneI_any (a.A k) (s.tid k).ps (a.c k) W2 (hcr.1.more hm2) (by have := hcr.2.2.1; omega))
      have S2 := Lib.hid s2
      have KC := Lib.hid k2
      have KA := Lib.hid (K1.out.below b2 K1.out.lt)
      have KB := Lib.hid (K2.out.below b2 K2.out.lt)
      have B2 := Lib.hid b2
      clear k2 b2 s2 hcr hm2
      go_wp2_with fail
      refine CI.out.mono ?_
      rintro e w3 ⟨A5, c5, rfl, r5, hc5, b5, f5⟩
      obtain ⟨W4, st4, k4, fb4, fh4, fs4⟩ := st_putA (KA.out.below b5 KA.out.lt) k hlt A5 c5
      have kc4 : Blk W4 wr.heap.size 26 #[.int .i8 (s.tid k).st, .int .i64 (s.tid k).pid, .int .i64 (s.tid k).ep, .int .i64 (s.tid k).tm, .int .i64 (s.tid k).th, .slice (a.A k) (s.tid k).ps.length (a.c k), .slice (a.D k) (s.tid k).qs.length (a.e k), .int .i64 (s.tid k).ag] := (fh4 _ (by have := SZ.out; omega)).trans (KC.out.below b5 KC.out.lt)
      have kb4 : Blk W4 (w.heap.size + 1) 31 #[.int .i64 0, .int .i8 0, .int .i64 0, .int .i64 0, .int .i64 0, .int .i64 0, .slice none 0 0, .slice none 0 0, .int .i64 0, .int .i8 0, .int .i64 0, .int .i64 0, .int .i64 0, .int .i64 0, .slice none 0 0, .slice none 0 0, .int .i64 0, .int .i8 0, .int .i64 0, .int .i64 0, .int .i64 0, .int .i64 0, .slice none 0 0, .slice none 0 0, .int .i64 0, .int .i64 0, .int .i64 0, .int .i64 0, .int .i64 0, .int .i64 0, .int .i64 0] := (fh4 _ (by omega)).trans (KB.out.below b5 KB.out.lt)
      have y6 := kc4.cell 6
      have B4 := Lib.hid (fb4 w.heap.size w (Nat.le_refl _) (BW2.out.trans (b5.mono BW2.out.size)))
      have hcr := (H.out k hlt).below B4.out
      have hm4 := B4.out.size
      have CP := Lib.hid (CloneP_any (a.D k) (s.tid k).qs (a.e k) W4 (hcr.2.1.more hm4) (by have := hcr.2.2.2; omega))
      have K4 := Lib.hid k4
      have KB4 := Lib.hid kb4
      have R5 := Lib.hid r5
      have F5 := Lib.hid f5
      have FH4 := Lib.hid fh4
      have FS4 := Lib.hid fs4
      have B5 := Lib.hid b5
      clear k4 kb4 kc4 fb4 fh4 fs4 hcr hm4 r5 f5 b5 y5 ix st2
      go_wp2_with fail
      refine CP.out.mono ?_
      rintro e w5 ⟨A6, c6, rfl, r6, hc6, b6, f6⟩
      obtain ⟨W6, st6, k6, fb6, fh6, fs6⟩ := st_putD (K4.out.below b6 K4.out.lt) k hlt A6 c6
      have kb6 : Blk W6 (w.heap.size + 1) 31 #[.int .i64 0, .int .i8 0, .int .i64 0, .int .i64 0, .int .i64 0, .int .i64 0, .slice none 0 0, .slice none 0 0, .int .i64 0, .int .i8 0, .int .i64 0, .int .i64 0, .int .i64 0, .int .i64 0, .slice none 0 0, .slice none 0 0, .int .i64 0, .int .i8 0, .int .i64 0, .int .i64 0, .int .i64 0, .int .i64 0, .slice none 0 0, .slice none 0 0, .int .i64 0, .int .i64 0, .int .i64 0, .int .i64 0, .int .i64 0, .int .i64 0, .int .i64 0] := (fh6 _ (by omega)).trans (KB4.out.below b6 KB4.out.lt)
      have BB6 := Lib.hid (fb6 w.heap.size w (Nat.le_refl _) (B4.out.trans (b6.mono B4.out.size)))
      have K6 := Lib.hid k6
      have KB6 := Lib.hid kb6
      have SZ6 := Lib.hid (show w.heap.size + 1 + 1 ≤ W6.heap.size by
        have := SZ.out; have := B2.out.size; have := B5.out.size; have := FS4.out; have := b6.size; omega)
      have LL := Lib.hid (show ∀ j, j < k + 1 → CoR W6 W6.heap.size (s.tid j) (((c.setA k A5 c5).setD k A6 c6).A j) (((c.setA k A5 c5).setD k A6 c6).D j) ∧ NewAt (w.heap.size + 1 + 1) (s.tid j).ps.length (((c.setA k A5 c5).setD k A6 c6).A j) ∧ NewAt (w.heap.size + 1 + 1) (s.tid j).qs.length (((c.setA k A5 c5).setD k A6 c6).D j) from by
        intro j hj
        have hsz := SZ.out
        have hz2 := B2.out.size
        have hz5 := B5.out.size
        have hz4 := FS4.out
        by_cases hjk : j = k
        · subst hjk
          have e1 : ((c.setA j A5 c5).setD j A6 c6).A j = A5 := if_pos rfl
          have e2 : ((c.setA j A5 c5).setD j A6 c6).D j = A6 := if_pos rfl
          rw [e1, e2]
          have g5 : NewAt (w.heap.size + 1 + 1) (s.tid j).ps.length A5 := F5.out.mono (by omega)
          have g6 : NewAt (w.heap.size + 1 + 1) (s.tid j).qs.length A6 := f6.mono (by omega)
          refine ⟨⟨?_, ?_, (H.out j hlt).2.2⟩, g5, g6⟩
          · have q1 : Reads W4 W4.heap.size 1 A5 (s.tid j).ps.length (cellsI .i64 (s.tid j).ps) := by
              rw [hz4]
              exact reads_keepS R5.out (fun hn ad e => FH4.out _ (by have := newAt_blockS g5 hn e; omega))
            have q2 : Reads w5 w5.heap.size 1 A5 (s.tid j).ps.length (cellsI .i64 (s.tid j).ps) := (q1.below b6).more b6.size
            rw [fs6]
            exact reads_keepS q2 (fun hn ad e => fh6 _ (by have := newAt_blockS g5 hn e; omega))
          · rw [fs6]
            exact reads_keepS r6 (fun hn ad e => fh6 _ (by have := newAt_blockS g6 hn e; omega))
        · have hj' : j < k := by omega
          obtain ⟨c1, c2, c3⟩ := HL.out j hj'
          have e1 : ((c.setA k A5 c5).setD k A6 c6).A j = c.A j := if_neg hjk
          have e2 : ((c.setA k A5 c5).setD k A6 c6).D j = c.D j := if_neg hjk
          rw [e1, e2]
          refine ⟨?_, c2, c3⟩
          have q3 := (c1.up B2.out).up B5.out
          have q4 := q3.keepN c2 c3 (b := w.heap.size) (by omega) FH4.out hz4
          have q5 := q4.up b6
          exact q5.keepN c2 c3 (b := w.heap.size) (by omega) fh6 fs6)
      clear k6 kb6 fb6 fh6 fs6 r6 f6 b6
      go_wp2_with fail
      go_roundg (gk - 1)
      case measure => have := HMM.out; omega
      case rel =>
        exact ⟨k + 1, (c.setA k A5 c5).setD k A6 c6, by omega, by go_num, by have := HMM.out; omega, K6.out, KB6.out, BB6.out, SZ6.out, LL.out⟩
    · obtain rfl : k = 3 := by omega
      have d3 : decide (((3 : Nat) : Int) < 3) = false := by decide
      have lo := st_load K1.out
      obtain ⟨W9, st9, k9, fb, fh, fs⟩ := bk_store (P := Tryd.prog) (ty := 31) (cs := stX s c) 31 K2.out infoSta rfl (stX_size ..) (stX_one ..)
      have K9 := Lib.hid k9
      have B9 := Lib.hid (fb w.heap.size w (by omega) BW'.out)
      have L9 := Lib.hid (show StR W9 W9.heap.size s c from fun j hj => (HL.out j hj).1.keepN (HL.out j hj).2.1 (HL.out j hj).2.2 (b := w.heap.size + 1) (by omega) fh fs)
      clear k9 fb fh fs
      go_wp2_with fail
      refine bodyPost_ret (v := .agg (stX s c)) (mown_ret _ _ (w.heap.size + 1) _ rfl K9.out (stX_size ..)) rfl ?_
      exact ⟨c, rfl, L9.out, B9.out, fun j hj => ⟨(HL.out j hj).2.1.mono (by omega), (HL.out j hj).2.2.mono (by omega)⟩⟩
end
end Go.Proofs.YtbpkckahonmpkaaDoor
namespace Go.Proofs.YtbpkckahonmpkaaDoor
open Go.RowKit
structure Mt where
  kd : Int
  tid : Int
  tm : Int
  p : Pd
  yes : Bool
  th : Int
  c : Co
  nx : Int
def Pd0 : Pd := (0, 0, 0)
/-- Its cells. -/
def mtL (m : Mt) (A D : Option Addr) (c e : Nat) : List Value := [.int .i8 m.kd, .int .i64 m.tid, .int .i64 m.tm, .int .i64 m.p.1, .int .i64 m.p.2.1, .int .i64 m.p.2.2, .bool m.yes, .int .i64 m.th] ++ (coL m.c A D c e ++ [.int .i64 m.nx])
def mtX (m : Mt) (A D : Option Addr) (c e : Nat) : Array Value := (mtL m A D c e).toArray
theorem mtX_size (m : Mt) (A D : Option Addr) (c e : Nat) : (mtX m A D c e).size = 17 := rfl
theorem mtX_one (m : Mt) (A D : Option Addr) (c e : Nat) : (mtX m A D c e).all (·.oneCell') = true := by
  simp [mtX, mtL, coL, Value.oneCell']
section
variable {P : Program} {W : World} {b : Nat} {t : TypeId} {m : Mt} {A D : Option Addr} {c e : Nat}
theorem mt_load (h : Blk W b t (mtX m A D c e)) : (loadCells ⟨b, 0, none⟩ 17).run P W = .ok (mtX m A D c e) W := bk_load 17 h rfl
theorem mt_pend (h : Blk W b t (mtX m A D c e)) : (loadCells ⟨b, 3, none⟩ 3).run P W = .ok #[.int .i64 m.p.1, .int .i64 m.p.2.1, .int .i64 m.p.2.2] W := bk_load_off 3 3 h rfl rfl
theorem mt_co (h : Blk W b t (mtX m A D c e)) : (loadCells ⟨b, 8, none⟩ 8).run P W = .ok #[.int .i8 m.c.st, .int .i64 m.c.pid, .int .i64 m.c.ep, .int .i64 m.c.tm, .int .i64 m.c.th, .slice A m.c.ps.length c, .slice D m.c.qs.length e, .int .i64 m.c.ag] W := bk_load_off 8 8 h rfl rfl
theorem mt_cell (h : Blk W b t (mtX m A D c e)) {j : Nat} {v : Value} (hv : (mtL m A D c e)[j]? = some v) : W.cell? ⟨b, j, none⟩ = some v := by
  rw [h.cell, ← hv]
  unfold mtX
  simp
end
/-- An entry with the fields alone that its kind names. -/
def bareM (m : Mt) : Mt :=
  { kd := m.kd
    tid := if m.kd = 1 ∨ m.kd = 2 ∨ m.kd = 3 ∨ m.kd = 4 ∨ m.kd = 6 then m.tid else 0
    tm := if m.kd = 1 then m.tm else 0
    p := if m.kd = 2 ∨ m.kd = 5 then m.p else Pd0
    yes := if m.kd = 3 then m.yes else false
    th := if m.kd = 3 then m.th else 0
    c := if m.kd = 6 then m.c else Co0
    nx := if m.kd = 7 then m.nx else 0 }
def sameM (a b : Mt) : Bool := (a.kd == b.kd) && ((a.tid == b.tid) && ((a.tm == b.tm) && (decide (a.p = b.p) && ((a.yes == b.yes) && ((a.th == b.th) && ((a.nx == b.nx) && sameB a.c b.c))))))
noncomputable def fitM (m : Mt) : Bool :=
  if m.kd = 0 ∨ m.kd = 4 then true
  else if m.kd = 1 then decide (1 ≤ m.tm) && decide (m.tm ≤ 20)
  else if m.kd = 2 ∨ m.kd = 5 then pendB m.p
  else if m.kd = 3 then decide (0 ≤ m.th) && (decide (m.th ≤ 20) && (!m.yes || decide (m.th = 0)))
  else if m.kd = 6 then decide (m.c.ps.length = 0) && mayB m.c
  else if m.kd = 7 then decide (0 ≤ m.nx) && decide (m.nx ≤ 8)
  else false
noncomputable def mayM (m : Mt) : Bool := sameM m (bareM m) && (decide (0 ≤ m.tid) && (decide (m.tid < 3) && fitM m))
end Go.Proofs.YtbpkckahonmpkaaDoor
namespace Go.Proofs.YtbpkckahonmpkaaDoor
open Go.RowKit

/-- Cells put over a list from a place on. -/
def splice {α : Type} (l : List α) (o : Nat) (m : List α) : List α := l.take o ++ m ++ l.drop (o + m.length)
theorem length_splice {α : Type} (l : List α) (o : Nat) (m : List α) (h : o + m.length ≤ l.length) : (splice l o m).length = l.length := by
  unfold splice
  simp only [List.length_append, List.length_take, List.length_drop]
  omega
section
variable {P : Program}
/-- copy(d, s), elements of any size. -/
theorem run_copy_rowN (w : World) (dT sT ty elem : TypeId) (size g o dLen dCap : Nat) (a : Addr) (sLen sCap : Nat) (cur : Array Value) (t : TypeId) (cs : List Value)
    (hu : P.underlying dT = some (.slice elem)) (hs : (P.info? elem).map (·.size) = some size)
    (hg : w.heap[g]? = some (.cells cur t (0, 0))) (hn : cs.length = Nat.min sLen dLen * size)
    (hsrc : ∀ j v, cs[j]? = some v → w.cell? (a.add j) = some v) (hfit : o + cs.length ≤ cur.size) (h1 : ∀ v ∈ cs, v.oneCell' = true) :
    (Builtin.copy_ #[dT, sT] ty #[.slice (some ⟨g, o, none⟩) dLen dCap, .slice (some a) sLen sCap]).run P w =
      .ok (goInt (Nat.min sLen dLen)) (w.setRow g (splice cur.toList o cs).toArray) := by
  have hl := run_loadCells_list (P := P) w a cs hsrc
  have hst := run_storeCells_at P g o t cs 0 cur w hg (by simpa using hfit) h1
  cases hq : P.info? elem with
  | none => simp [hq] at hs
  | some i =>
    have hi : i.size = size := by simpa [hq] using hs
    rw [hn] at hl
    simp [Builtin.copy_, run_underlying hu, Builtin.lenOf, Builtin.firstCells, sizeOf, typeInfo, hq, hi, hl, hst, splice]
end
theorem blk_setRow {w : World} {g : Nat} {t : TypeId} {cur new : Array Value} (h : Blk w g t cur) : Blk (w.setRow g new) g t new := setRow_heap w g cur new t (0, 0) h
theorem grown_setRow (w : World) (g : Nat) (new : Array Value) : w.grownBy (w.setRow g new) (some g) := by
  refine ⟨rfl, rfl, rfl, by simp [World.setRow], fun i hi hne => ?_⟩
  unfold World.setRow
  simp only [Array.getElem?_modify]
  rw [if_neg (fun e => hne (by rw [e]))]
theorem splice_room {α : Type} (L cs vs : List α) (N p q : Nat) (hL : L.take N = cs) (hcs : cs.length = N) (hv : vs.length = q) (hp : p ≤ N) (hN : N + q ≤ L.length) :
    (splice (splice L (p + q) (cs.drop p)) p vs).take (N + q) = cs.take p ++ vs ++ cs.drop p := by
  subst hv
  have e1 : (splice L (p + vs.length) (cs.drop p)).take p = cs.take p := by
    unfold splice
    rw [List.append_assoc, List.take_append_of_le_length (by simp; omega), List.take_take, ← hL, List.take_take]
    congr 1; omega
  have e2 : (splice L (p + vs.length) (cs.drop p)).drop (p + vs.length) = cs.drop p ++ L.drop (N + vs.length) := by
    unfold splice
    have hl : (L.take (p + vs.length)).length = p + vs.length := by rw [List.length_take]; omega
    rw [List.append_assoc, List.drop_left' hl]
    congr 2
    simp only [List.length_drop]
    omega
  have e3 : (cs.take p ++ vs ++ cs.drop p).length = N + vs.length := by simp; omega
  unfold splice at e1 e2 ⊢
  rw [e1, e2, ← List.append_assoc, ← e3, List.take_left']
  rfl
theorem splice_new {α : Type} (L cs vs : List α) (N p q : Nat) (hL : L.take p = cs.take p) (hcs : cs.length = N) (hv : vs.length = q) (hp : p ≤ N) (hN : N + q ≤ L.length) :
    (splice (splice L p vs) (p + q) (cs.drop p)).take (N + q) = cs.take p ++ vs ++ cs.drop p := by
  subst hv
  have e1 : (splice L p vs).take (p + vs.length) = cs.take p ++ vs := by
    have h3 : (cs.take p ++ vs).length = p + vs.length := by simp; omega
    unfold splice
    rw [hL, ← h3, List.take_left']
    rfl
  have e3 : (cs.take p ++ vs ++ cs.drop p).length = N + vs.length := by simp; omega
  have e4 : ∀ M : List α, (cs.take p ++ vs ++ cs.drop p ++ M).take (N + vs.length) = cs.take p ++ vs ++ cs.drop p := fun M => by
    rw [← e3, List.take_left']; rfl
  have e5 : splice (splice L p vs) (p + vs.length) (cs.drop p) = (splice L p vs).take (p + vs.length) ++ cs.drop p ++ (splice L p vs).drop (p + vs.length + (cs.drop p).length) := rfl
  rw [e5, e1, e4]

/-- What Insert leaves: a row of one element more; what was there else is as it was. -/
def InsPost (t : TypeId) (sz B : Nat) (v : Value) (n : Nat) (cs : List Value) (w : World) (e : Ending) (w' : World) : Prop :=
  ∃ A' c', e = .returned (.slice A' (n + 1) c') ∧ w'.ownsRow B t sz (.slice A' (n + 1) c') (n + 1) cs ∧ w.grownBy w' v.ownBlock
theorem grown_tr {w w1 w2 : World} {r : Option Nat} (h : w.grownBy w1 r) (h2 : w1.grownBy w2 r) : w.grownBy w2 r :=
  ⟨h2.os.trans h.os, h2.tape.trans h.tape, h2.output.trans h.output, Nat.le_trans h.size h2.size, fun k hk hne => (h2.block k (Nat.lt_of_lt_of_le hk h.size) hne).trans (h.block k hk hne)⟩
theorem grown_drew (w : World) (r : Option Nat) : w.grownBy w.drew r := ⟨rfl, rfl, rfl, Nat.le_refl _, fun _ _ _ => rfl⟩
theorem grown_new {w w1 w2 : World} {r : Option Nat} {g : Nat} (h : w.grownBy w1 r) (hg : w.heap.size ≤ g) (h2 : w1.grownBy w2 (some g)) : w.grownBy w2 r :=
  ⟨h2.os.trans h.os, h2.tape.trans h.tape, h2.output.trans h.output, Nat.le_trans h.size h2.size, fun k hk hne => (h2.block k (Nat.lt_of_lt_of_le hk h.size) (fun e => by injection e; omega)).trans (h.block k hk hne)⟩
theorem grown_alloc (w : World) (o : Obj) (r : Option Nat) : w.grownBy (w.alloc o) r := World.grownBy_alloc w o r
theorem blk_at {w : World} {g : Nat} {t : TypeId} {cs : Array Value} (h : Blk w g t cs) {l : List Value} (hl : cs.toList = l) {j : Nat} {v : Value} (hj : l[j]? = some v) : w.cell? ⟨g, j, none⟩ = some v := by
  rw [h.cell, ← hj, ← hl]; simp
theorem shape_blk {w : World} {g : Nat} {t : TypeId} {cs : Array Value} (h : Blk w g t cs) : w.shape? g = some (t, cs.size) := by
  unfold Blk at h
  simp [World.shape?, h]

set_option maxRecDepth 100000 in
set_option maxHeartbeats 4000000 in
/-- slices.Insert at []api.Pend, the place is the end. -/
theorem InsertP_end (B : Nat) (A : Option Addr) (n c vb : Nat) (cs vs : List Value) (w : World) (hown : w.ownsRow B 33 3 (.slice A n c) n cs) (hB : B ≤ w.heap.size) (hn : n ≤ 1000000)
    (hv : vs.length = 3) (kv : Blk w vb 33 vs.toArray) (h1v : ∀ v ∈ vs, v.oneCell' = true) :
    Calls Tryd.prog 82 #[.slice A n c, .int .i64 n, .slice (some ⟨vb, 0, none⟩) 1 1] w (InsPost 33 3 B (.slice A n c) n (cs ++ vs) w) := by
  obtain ⟨i0, hi, hz0, hz1, hz2⟩ := info_parts infoP
  have HO := Lib.hid hown
  have RV := Lib.hid (show Reads w (vb + 1) 3 (some ⟨vb, 0, none⟩) 1 vs from ⟨by rw [hv], fun _ => ⟨_, rfl, Nat.lt_succ_self _, fun j v hj => by
    rw [Addr.add_lit, Nat.zero_add]
    exact blk_at kv (by simp) hj⟩⟩)
  clear hown kv
  go_enter Tryd.func82, Tryd.ntmps82
  go_wp2_with (at_builtin; refine wpList_append_any _ rfl (.tmp 23) (.tmp 24) 24 rfl B 33 i0 _ 3 24 Tryd.underlying24 hi hz0 hz1 hz2 rfl (by decide) (.slice A n c) n cs rfl HO.out (vb + 1) (some ⟨vb, 0, none⟩) 1 1 vs rfl RV.out h1v (by unfold maxLen; omega) (by omega) hB ?_; intro v3 w3 hown3 hg3 hat3)
  all_goals
    go_ret
    obtain ⟨A3, c3, rfl, hc3⟩ := own_slice hown3
    exact ⟨A3, c3, rfl, hown3, by cases A <;> exact hg3⟩

set_option maxRecDepth 100000 in
set_option maxHeartbeats 4000000 in
/-- .. a place ahead of an element, and there is room. -/
theorem InsertP_shift (B g n c i vb : Nat) (cur : Array Value) (cs vs : List Value) (w : World) (kg : Blk w g 33 cur) (hBg : B ≤ g) (hc : c ≤ maxLen) (hcur : cur.size = c * 3) (hcs : cur.toList.take (n * 3) = cs) (hn : n ≤ 1000000)
    (hi : i < n) (hroom : n + 1 ≤ c) (hv : vs.length = 3) (kv : Blk w vb 33 vs.toArray) (h1v : ∀ v ∈ vs, v.oneCell' = true) (h1c : ∀ v ∈ cs, v.oneCell' = true) (hne : vb ≠ g) :
    Calls Tryd.prog 82 #[.slice (some ⟨g, 0, none⟩) n c, .int .i64 i, .slice (some ⟨vb, 0, none⟩) 1 1] w (InsPost 33 3 B (.slice (some ⟨g, 0, none⟩) n c) n (cs.take (i * 3) ++ vs ++ cs.drop (i * 3)) w) := by
  have hcl : cs.length = n * 3 := by rw [← hcs, List.length_take, Array.length_toList]; omega
  have hsz : (Tryd.prog.info? 33).map (·.size) = some 3 := by kernel_rfl
  have hz1 : ¬ ((i : Int) = (n : Int)) := by omega
  have mixed : Tryd.prog.follows Departure.mixedOrders = true := by kernel_rfl
  have hc63 : c ≤ 9223372036854775807 := by unfold maxLen at hc; omega
  have hov : ∀ lb cb, (callFunc 88 #[.slice (some ⟨vb, 0, none⟩) 1 1, .slice (some ⟨g, (i + 1) * 3, none⟩) lb cb]).run Tryd.prog w = .ok (.value (.bool false)) w := fun lb cb => by
    rw [run_callFunc_extern Tryd.func88 (by kernel_rfl) (by kernel_rfl) (by kernel_rfl) (e := Extern.SlicesOverlaps.overlaps #[24, 24] #[4]) (by kernel_rfl),
      Lib.run_overlaps_apart w 24 4 33 Tryd.underlying24 3 (fun w => by obtain ⟨i1, h1, h2⟩ := Option.map_eq_some_iff.1 hsz; simp [Go.sizeOf, typeInfo, h1, h2]) ⟨vb, 0, none⟩ ⟨g, (i + 1) * 3, none⟩ 1 1 lb cb hne _ _ _ _ (shape_blk kv) (shape_blk kg) (by omega) (kv.frozen 0) (kv.frozen _)]
    rfl
  have hb1 : (0 : Int) ≤ (i : Int) + (1 : Int) := by omega
  have hw1 : IntKind.i64.wrap ((i : Int) + (1 : Int)) = (i : Int) + (1 : Int) := by rw [IntKind.wrap_i64]; omega
  have hb3 : (i : Int) ≤ (n : Int) + (1 : Int) := by omega
  have hin : i ≤ n := by omega
  have htn : ((i : Int) + (1 : Int)).toNat = i + 1 := by omega
  have hb2 : ¬ (c = i + 1) := by omega
  have hb4 : ¬ (c = i) := by omega
  have hdl : (cs.drop (i * 3)).length = (n - i) * 3 := by rw [List.length_drop, hcl]; try omega
  have hkg' := kg
  unfold Blk at hkg'
  have hcp1 : ∀ ty dc sc, (Builtin.copy_ #[24, 24] ty #[.slice (some ⟨g, (i + 1) * 3, none⟩) (n - i) dc, .slice (some ⟨g, i * 3, none⟩) (n + 1 - i) sc]).run Tryd.prog w.drew = .ok (goInt (Nat.min (n + 1 - i) (n - i))) (w.drew.setRow g (splice cur.toList ((i + 1) * 3) (cs.drop (i * 3))).toArray) := fun ty dc sc =>
    run_copy_rowN w.drew _ _ ty 33 3 g ((i + 1) * 3) (n - i) dc ⟨g, i * 3, none⟩ (n + 1 - i) sc cur 33 (cs.drop (i * 3)) Tryd.underlying24 hsz hkg' (by rw [hdl]; simp only [Nat.min_def]; split <;> omega)
      (fun j v hj => by
        rw [List.getElem?_drop, ← hcs, List.getElem?_take] at hj
        split at hj
        · rw [Addr.add_lit]; exact blk_at (w := w) kg rfl hj
        · cases hj) (by rw [hdl, hcur]; omega) (fun v hv => h1c v (List.mem_of_mem_drop hv))
  obtain ⟨L1, hL1⟩ : ∃ L1, L1 = splice cur.toList ((i + 1) * 3) (cs.drop (i * 3)) := ⟨_, rfl⟩
  have hl1 : L1.length = c * 3 := by rw [hL1, length_splice _ _ _ (by rw [hdl, Array.length_toList, hcur]; omega), Array.length_toList, hcur]
  rw [← hL1] at hcp1
  obtain ⟨W1, hW1⟩ : ∃ W1, W1 = w.drew.setRow g L1.toArray := ⟨_, rfl⟩
  have kd : Blk w.drew g 33 cur := kg
  have kg1 : Blk W1 g 33 L1.toArray := by rw [hW1]; exact blk_setRow kd
  have gr1 : w.drew.grownBy W1 (some g) := by rw [hW1]; exact grown_setRow _ _ _
  have kvd : Blk w.drew vb 33 vs.toArray := kv
  have kv1 : Blk W1 vb 33 vs.toArray := by
    unfold Blk at kvd ⊢
    rw [gr1.block vb (Array.getElem?_eq_some_iff.1 kvd).1 (fun e => hne (by injection e))]
    exact kvd
  rw [← hW1] at hcp1
  have hkg1 := kg1
  unfold Blk at hkg1
  have hcp2 : ∀ ty dc, (Builtin.copy_ #[24, 24] ty #[.slice (some ⟨g, i * 3, none⟩) (n + 1 - i) dc, .slice (some ⟨vb, 0, none⟩) 1 1]).run Tryd.prog W1 = .ok (goInt (Nat.min 1 (n + 1 - i))) (W1.setRow g (splice L1 (i * 3) vs).toArray) := fun ty dc => by
    have := run_copy_rowN (P := Tryd.prog) W1 24 24 ty 33 3 g (i * 3) (n + 1 - i) dc ⟨vb, 0, none⟩ 1 1 L1.toArray 33 vs Tryd.underlying24 hsz hkg1 (by rw [hv]; simp only [Nat.min_def]; split <;> omega)
      (fun j v hj => by
        rw [Addr.add_lit, Nat.zero_add]; exact blk_at kv1 (by simp) hj) (by rw [hv]; simp only [List.size_toArray, hl1]; omega) h1v
    exact this
  have K1 := Lib.hid kg1
  have G1 := Lib.hid gr1
  have FIN := Lib.hid (show (splice L1 (i * 3) vs).take ((n + 1) * 3) = cs.take (i * 3) ++ vs ++ cs.drop (i * 3) by
    have := splice_room cur.toList cs vs (n * 3) (i * 3) 3 hcs hcl hv (by omega) (by rw [Array.length_toList, hcur]; omega)
    rw [hL1, show (i + 1) * 3 = i * 3 + 3 by omega, show (n + 1) * 3 = n * 3 + 3 by omega]
    exact this)
  have HL := Lib.hid (show (splice L1 (i * 3) vs).length = c * 3 by rw [length_splice _ _ _ (by rw [hv, hl1]; omega), hl1])
  have HFL := Lib.hid (show (cs.take (i * 3) ++ vs ++ cs.drop (i * 3)).length = (n + 1) * 3 by rw [← FIN.out, List.length_take, HL.out]; omega)
  clear kg hkg' hW1 kd kg1 kv kv1 kvd gr1 hL1 hl1 hkg1 hcs hcl hdl hcur h1v h1c
  go_enter Tryd.func82, Tryd.ntmps82
  go_wp2_with (simp only [hov])
  go_region_law_o (refine step_copy_runI rfl _ _ 24 24 rfl _ _ (by simp [Act.eval, Act.put]) (by simp [Act.eval, Act.put]) (hcp1 _ _ _) ?_)
  go_wp2_with (at_builtin; refine wpList_copy_runI _ rfl _ _ 24 24 rfl _ _ rfl rfl (hcp2 _ _) ?_)
  go_ret
  refine ⟨_, _, rfl, ⟨(by simpa using HFL.out), .inr ⟨g, c, (splice L1 (i * 3) vs).toArray, rfl, hBg, blk_setRow K1.out, hroom, hc, by rw [List.size_toArray]; simpa using HL.out, by simpa using FIN.out⟩⟩, ?_⟩
  exact grown_tr (grown_drew _ _) (grown_tr G1.out (grown_setRow _ _ _))

set_option maxRecDepth 100000 in
set_option maxHeartbeats 4000000 in
/-- .. and there is none: a new row. -/
theorem InsertP_grow (B g n c i vb : Nat) (cur : Array Value) (cs vs : List Value) (w : World) (kg : Blk w g 33 cur) (hB : B ≤ w.heap.size) (hnc : n ≤ c) (hcur : cur.size = c * 3) (hcs : cur.toList.take (n * 3) = cs) (hn : n ≤ 1000000)
    (hi : i < n) (hroom : c < n + 1) (hv : vs.length = 3) (kv : Blk w vb 33 vs.toArray) (h1v : ∀ v ∈ vs, v.oneCell' = true) (h1c : ∀ v ∈ cs, v.oneCell' = true) :
    Calls Tryd.prog 82 #[.slice (some ⟨g, 0, none⟩) n c, .int .i64 i, .slice (some ⟨vb, 0, none⟩) 1 1] w (InsPost 33 3 B (.slice (some ⟨g, 0, none⟩) n c) n (cs.take (i * 3) ++ vs ++ cs.drop (i * 3)) w) := by
  have hcl : cs.length = n * 3 := by rw [← hcs, List.length_take, Array.length_toList]; omega
  obtain ⟨i0, hi0, hz0, hzs, hzb⟩ := info_parts infoP
  have hsz : (Tryd.prog.info? 33).map (·.size) = some 3 := by kernel_rfl
  have hz2 : ¬ ((i : Int) = (n : Int)) := by omega
  have mixed : Tryd.prog.follows Departure.mixedOrders = true := by kernel_rfl
  have hz3 : (c : Int) < (n : Int) + (1 : Int) := by omega
  have hkk : (n : Int) + (1 : Int) - (i : Int) = ((n + 1 - i : Nat) : Int) := by omega
  have hik : i + (n + 1 - i) = n + 1 := by omega
  have hcell : ∀ j v, cs[j]? = some v → w.cell? ⟨g, j, none⟩ = some v := fun j v hj => by
    rw [← hcs, List.getElem?_take] at hj
    split at hj
    · exact blk_at kg rfl hj
    · cases hj
  have hold : (Builtin.firstCells i0.size i (.slice (some ⟨g, 0, none⟩) i c)).run Tryd.prog w.drew = .ok (cs.take (i * 3)).toArray w.drew := by
    rw [hzs]
    exact run_firstCells_some w.drew 3 i ⟨g, 0, none⟩ i c (cs.take (i * 3)) (by rw [List.length_take, hcl]; omega) (fun j v hj => by
      rw [Addr.add_lit, Nat.zero_add]
      rw [List.getElem?_take] at hj
      split at hj
      · exact hcell j v hj
      · cases hj)
  obtain ⟨G, hG⟩ : ∃ G, G = grownCap w (n + 1) c 33 := ⟨_, rfl⟩
  obtain ⟨ROW, hROW⟩ : ∃ ROW : Array Value, ROW = (cs.take (i * 3)).toArray ++ Builtin.zeroCells (.agg #[.int .i64 0, .int .i64 0, .int .i64 0] : Value).cells (n + 1 - i) ++ Builtin.zeroCells (.agg #[.int .i64 0, .int .i64 0, .int .i64 0] : Value).cells (G - (n + 1)) := ⟨_, rfl⟩
  have hGn : n + 1 ≤ G := by rw [hG]; exact grownCap_ge w _ _ _
  have hGm : G ≤ maxLen := by rw [hG]; exact grownCap_le_maxLen w (n + 1) c _ (by unfold maxLen; omega)
  have hG63 : G ≤ 9223372036854775807 := by unfold maxLen at hGm; omega
  have hrz : ∀ ty, (Builtin.append_ #[24, 3] ty #[.slice (some ⟨g, 0, none⟩) i c, .int .i64 ((n : Int) + (1 : Int) - (i : Int))]).run Tryd.prog w =
      .ok (.slice (some ⟨w.heap.size, 0, none⟩) (n + 1) G) (w.drew.alloc (.cells ROW 33)) := fun ty => by
    have h := Lib.run_append_grow_zeros w 24 3 ty 33 i0 _ .i64 .i64 Tryd.underlying24 Tryd.underlying3 hi0 hz0 (some ⟨g, 0, none⟩) i c (cs.take (i * 3)) hold (n + 1 - i) (by omega) (by omega) (by omega) (by omega) (by rw [hzb]; omega) (by rw [hzb, hik]; exact growslice_fits hroom (by omega))
    rw [hik, ← hG, ← hROW] at h
    rw [hkk]
    exact h
  have hRs : ROW.size = G * 3 := by
    rw [hROW]
    simp only [Array.size_append, List.size_toArray, List.length_take, hcl, size_zeroCells]
    rw [show (.agg #[.int .i64 0, .int .i64 0, .int .i64 0] : Value).cells.size = 3 from rfl]
    omega
  have hRt : ROW.toList.take (i * 3) = cs.take (i * 3) := by
    rw [hROW]
    simp only [Array.toList_append, List.append_assoc]
    exact List.take_left' (by rw [List.length_take, hcl]; omega)
  obtain ⟨W1, hW1⟩ : ∃ W1, W1 = w.drew.alloc (.cells ROW 33) := ⟨_, rfl⟩
  rw [← hW1] at hrz
  have hbw : g < w.heap.size := kg.lt
  have hvw : vb < w.heap.size := kv.lt
  have gr1 : w.grownBy W1 (Value.slice (some ⟨g, 0, none⟩) n c).ownBlock := by rw [hW1]; exact grown_tr (grown_drew _ _) (grown_alloc _ _ _)
  have kn1 : Blk W1 w.heap.size 33 ROW := by rw [hW1]; exact heap_alloc_new _ _
  have kd : Blk w.drew g 33 cur := kg
  have kvd : Blk w.drew vb 33 vs.toArray := kv
  have kg1 : Blk W1 g 33 cur := by rw [hW1]; exact kd.alloc _
  have kv1 : Blk W1 vb 33 vs.toArray := by rw [hW1]; exact kvd.alloc _
  have hkn1 := kn1
  unfold Blk at hkn1
  obtain ⟨L2, hL2⟩ : ∃ L2, L2 = splice ROW.toList (i * 3) vs := ⟨_, rfl⟩
  have hcpA : ∀ ty dc, (Builtin.copy_ #[24, 24] ty #[.slice (some ⟨w.heap.size, i * 3, none⟩) (n + 1 - i) dc, .slice (some ⟨vb, 0, none⟩) 1 1]).run Tryd.prog W1 = .ok (goInt (Nat.min 1 (n + 1 - i))) (W1.setRow w.heap.size L2.toArray) := fun ty dc => by
    rw [hL2]
    exact run_copy_rowN (P := Tryd.prog) W1 24 24 ty 33 3 w.heap.size (i * 3) (n + 1 - i) dc ⟨vb, 0, none⟩ 1 1 ROW 33 vs Tryd.underlying24 hsz hkn1 (by rw [hv]; simp only [Nat.min_def]; split <;> omega)
      (fun j v hj => by
        rw [Addr.add_lit, Nat.zero_add]; exact blk_at kv1 (by simp) hj) (by rw [hv, hRs]; omega) h1v
  have hl2 : L2.length = G * 3 := by rw [hL2, length_splice _ _ _ (by rw [hv, Array.length_toList, hRs]; omega), Array.length_toList, hRs]
  obtain ⟨W2, hW2⟩ : ∃ W2, W2 = W1.setRow w.heap.size L2.toArray := ⟨_, rfl⟩
  rw [← hW2] at hcpA
  have kn2 : Blk W2 w.heap.size 33 L2.toArray := by rw [hW2]; exact blk_setRow kn1
  have gr2 : W1.grownBy W2 (some w.heap.size) := by rw [hW2]; exact grown_setRow _ _ _
  have kg2 : Blk W2 g 33 cur := by
    unfold Blk at kg1 ⊢
    rw [gr2.block g (Array.getElem?_eq_some_iff.1 kg1).1 (fun e => by injection e; omega)]
    exact kg1
  have hdl : (cs.drop (i * 3)).length = (n - i) * 3 := by rw [List.length_drop, hcl]; try omega
  have hkn2 : W2.drew.heap[w.heap.size]? = some (.cells L2.toArray 33 (0, 0)) := kn2
  have kg2' : Blk W2.drew g 33 cur := kg2
  have hcpB : ∀ ty dc sc, (Builtin.copy_ #[24, 24] ty #[.slice (some ⟨w.heap.size, (i + 1) * 3, none⟩) (n - i) dc, .slice (some ⟨g, i * 3, none⟩) (n - i) sc]).run Tryd.prog W2.drew = .ok (goInt (Nat.min (n - i) (n - i))) (W2.drew.setRow w.heap.size (splice L2 ((i + 1) * 3) (cs.drop (i * 3))).toArray) := fun ty dc sc => by
    have := run_copy_rowN (P := Tryd.prog) W2.drew 24 24 ty 33 3 w.heap.size ((i + 1) * 3) (n - i) dc ⟨g, i * 3, none⟩ (n - i) sc L2.toArray 33 (cs.drop (i * 3)) Tryd.underlying24 hsz hkn2 (by rw [hdl]; simp only [Nat.min_def]; split <;> omega)
      (fun j v hj => by
        rw [List.getElem?_drop, ← hcs, List.getElem?_take] at hj
        split at hj
        · rw [Addr.add_lit]; exact blk_at kg2' rfl hj
        · cases hj) (by rw [hdl]; simp only [List.size_toArray, hl2]; omega) (fun v hv => h1c v (List.mem_of_mem_drop hv))
    exact this
  have KN := Lib.hid kn2
  have GR := Lib.hid (grown_tr (grown_new gr1 (Nat.le_refl _) gr2) (grown_drew _ _))
  have FIN := Lib.hid (show (splice L2 ((i + 1) * 3) (cs.drop (i * 3))).take ((n + 1) * 3) = cs.take (i * 3) ++ vs ++ cs.drop (i * 3) by
    have := splice_new ROW.toList cs vs (n * 3) (i * 3) 3 hRt hcl hv (by omega) (by rw [Array.length_toList, hRs]; omega)
    rw [hL2, show (i + 1) * 3 = i * 3 + 3 by omega, show (n + 1) * 3 = n * 3 + 3 by omega]
    exact this)
  have HL := Lib.hid (show (splice L2 ((i + 1) * 3) (cs.drop (i * 3))).length = G * 3 by rw [length_splice _ _ _ (by rw [hdl, hl2]; omega), hl2])
  have HFL := Lib.hid (show (cs.take (i * 3) ++ vs ++ cs.drop (i * 3)).length = (n + 1) * 3 by rw [← FIN.out, List.length_take, HL.out]; omega)
  have hw1 : IntKind.i64.wrap ((i : Int) + (1 : Int)) = (i : Int) + (1 : Int) := by rw [IntKind.wrap_i64]; omega
  have hb1 : (0 : Int) ≤ (i : Int) + (1 : Int) := by omega
  have hin : i ≤ n := by omega
  have htn : ((i : Int) + (1 : Int)).toNat = i + 1 := by omega
  have hb3 : (i : Int) ≤ (n : Int) := by omega
  have hGi : ¬ (G = i) := by omega
  have hGim : ¬ (G = i + 1) := by omega
  have hci : ¬ (c = i) := by omega
  have HW1 := Lib.hid hW1
  clear hkk hik hold hROW hG hRs hRt kg kv kg1 kg2 kg2' kd kv1 kvd kn1 kn2 hkn1 hkn2 gr1 gr2 hL2 hl2 hW1 hW2 hcs hcl hdl hcur h1v h1c hcell hi0 hz0 hzs hzb
  go_enter Tryd.func82, Tryd.ntmps82
  go_wp2_with (first
    | (at_builtin; refine Lib.wpList_append_run _ rfl _ _ _ _ rfl _ _ rfl rfl _ _ (hrz _) ?_)
    | (at_builtin; refine wpList_copy_runI _ rfl _ _ 24 24 rfl _ _ rfl rfl (hcpA _ _) ?_))
  go_region_law_o (refine step_copy_runI rfl _ _ 24 24 rfl (.slice (some ⟨w.heap.size, (i + 1) * 3, none⟩) (n - i) (G - (i + 1))) (.slice (some ⟨g, i * 3, none⟩) (n - i) (c - i)) (by simp [Act.eval, Act.put]) (by simp [Act.eval, Act.put]) (hcpB 3 (G - (i + 1)) (c - i)) ?_)
  go_wp2
  go_ret
  refine ⟨_, _, rfl, ⟨(by simpa using HFL.out), .inr ⟨w.heap.size, G, (splice L2 ((i + 1) * 3) (cs.drop (i * 3))).toArray, rfl, hB, blk_setRow KN.out, hGn, hGm, by rw [List.size_toArray]; simpa using HL.out, by simpa using FIN.out⟩⟩, ?_⟩
  exact grown_new GR.out (Nat.le_refl _) (grown_setRow _ _ _)
/-- slices.Insert at []api.Pend of one element. -/
theorem InsertP_any (B : Nat) (A : Option Addr) (n c i vb : Nat) (cs vs : List Value) (w : World) (hown : w.ownsRow B 33 3 (.slice A n c) n cs) (hB : B ≤ w.heap.size) (hn : n ≤ 1000000) (hi : i ≤ n)
    (hv : vs.length = 3) (kv : Blk w vb 33 vs.toArray) (h1v : ∀ v ∈ vs, v.oneCell' = true) (h1c : ∀ v ∈ cs, v.oneCell' = true) (hne : (Value.slice A n c).ownBlock ≠ some vb) :
    Calls Tryd.prog 82 #[.slice A n c, .int .i64 i, .slice (some ⟨vb, 0, none⟩) 1 1] w (InsPost 33 3 B (.slice A n c) n (cs.take (i * 3) ++ vs ++ cs.drop (i * 3)) w) := by
  by_cases hin : i = n
  · subst hin
    have hl := hown.1
    rw [List.take_of_length_le (by omega), List.drop_of_length_le (by omega), List.append_nil]
    exact InsertP_end B A i c vb cs vs w hown hB hn hv kv h1v
  rcases hown.2 with ⟨_, h0⟩ | ⟨g, cap, cur, he, hBg, hg, hnc, hcm, hcur, hcs⟩
  · omega
  · injection he with he1 _ he2
    subst he1; subst he2
    by_cases hr : n + 1 ≤ c
    · exact InsertP_shift B g n c i vb cur cs vs w hg hBg hcm (by omega) (by simpa using hcs) hn (by omega) hr hv kv h1v h1c (fun e => hne (by rw [e]; rfl))
    · exact InsertP_grow B g n c i vb cur cs vs w hg hB hnc (by omega) (by simpa using hcs) hn (by omega) (by omega) hv kv h1v h1c

end Go.Proofs.YtbpkckahonmpkaaDoor
namespace Go.Proofs.YtbpkckahonmpkaaDoor
open Go.RowKit

structure Only (S : Nat → Prop) (a w : World) : Prop where
  os : w.os = a.os
  tape : w.tape = a.tape
  output : w.output = a.output
  size : a.heap.size ≤ w.heap.size
  block : ∀ k, k < a.heap.size → ¬ S k → w.heap[k]? = a.heap[k]?

section
variable {S S' : Nat → Prop} {a b w w' : World}
theorem Only.refl (S : Nat → Prop) (w : World) : Only S w w := ⟨rfl, rfl, rfl, Nat.le_refl _, fun _ _ _ => rfl⟩
theorem Only.trans (h : Only S a b) (k : Only S b w) : Only S a w :=
  ⟨k.os.trans h.os, k.tape.trans h.tape, k.output.trans h.output, Nat.le_trans h.size k.size, fun i hi hn => (k.block i (Nat.lt_of_lt_of_le hi h.size) hn).trans (h.block i hi hn)⟩
theorem Only.mono (h : Only S a w) (hS : ∀ g, g < a.heap.size → S g → S' g) : Only S' a w := ⟨h.os, h.tape, h.output, h.size, fun i hi hn => h.block i hi fun hs => hn (hS i hi hs)⟩
/-- What the second step turns is the first step's, or new. -/
theorem Only.step (h : Only S a b) (k : Only S' b w) (hS : ∀ g, g < a.heap.size → S' g → S g) : Only S a w :=
  ⟨k.os.trans h.os, k.tape.trans h.tape, k.output.trans h.output, Nat.le_trans h.size k.size, fun i hi hn => (k.block i (Nat.lt_of_lt_of_le hi h.size) (fun hs => hn (hS i hi hs))).trans (h.block i hi hn)⟩
theorem Only.below {B : Nat} (h : Only S a w) (hB : B ≤ a.heap.size) (hS : ∀ g, S g → B ≤ g) : Below B a w := ⟨h.os, h.tape, h.output, h.size, fun i hi => h.block i (by omega) fun hs => by have := hS i hs; omega⟩
theorem Only.drew (h : Only S a w) : Only S a w.drew := ⟨h.os, h.tape, h.output, h.size, h.block⟩
theorem Only.alloc (h : Only S a w) (o : Obj) : Only S a (w.alloc o) :=
  ⟨h.os, h.tape, h.output, Nat.le_trans h.size (by simp), fun i hi hn => (Below.heap_alloc w o i (Nat.lt_of_lt_of_le hi h.size)).trans (h.block i hi hn)⟩
theorem Only.set (h : Only S a w) {g o : Nat} (hp : S g ∨ a.heap.size ≤ g) (u : Value) : Only S a (w.setCell ⟨g, o, none⟩ u) :=
  ⟨h.os, h.tape, h.output, by simpa [World.setCell] using h.size, fun i hi hn => (Below.heap_setCell w ⟨g, o, none⟩ u i (by
    rintro rfl
    rcases hp with hp | hp
    · exact hn hp
    · exact absurd hi (by simpa using hp))).trans (h.block i hi hn)⟩
theorem Only.grown {row : Option Nat} (h : Only S a b) (hg : b.grownBy w row) (hr : ∀ k, row = some k → k < a.heap.size → S k) : Only S a w :=
  ⟨hg.os.trans h.os, hg.tape.trans h.tape, hg.output.trans h.output, Nat.le_trans h.size hg.size, fun i hi hn => (hg.block i (Nat.lt_of_lt_of_le hi h.size) (fun e => hn (hr i e.symm hi))).trans (h.block i hi hn)⟩
theorem Only.blk {g : Nat} {t : TypeId} {cs : Array Value} (h : Only S a w) (k : Blk a g t cs) (hn : ¬ S g) : Blk w g t cs := (h.block g k.lt hn).trans k
theorem Only.cell {p : Addr} (h : Only S a w) (hp : p.block < a.heap.size) (hn : ¬ S p.block) : w.cell? p = a.cell? p := World.cell?_of_block (h.block _ hp hn)
theorem Only.reads {B size n : Nat} {A : Option Addr} {xs : List Value} (h : Only S a w) (k : Reads a B size A n xs) (hB : B ≤ a.heap.size) (hn : ∀ g, g < B → ¬ S g) : Reads w B size A n xs :=
  k.keep fun p hp => h.cell (by omega) (hn _ hp)
theorem Only.own {base : Nat} {e : TypeId} {size n : Nat} {v : Value} {xs : List Value} (h : Only S a w) (k : a.ownsRow base e size v n xs) (hn : ∀ g, base ≤ g → ¬ S g) : w.ownsRow base e size v n xs := by
  refine ⟨k.1, ?_⟩
  rcases k.2 with h0 | ⟨g, cap, cur, hv, hg, hh, hr⟩
  · exact .inl h0
  · refine .inr ⟨g, cap, cur, hv, hg, ?_, hr⟩
    have hlt : g < a.heap.size := by
      rcases Nat.lt_or_ge g a.heap.size with h1 | h1
      · exact h1
      · rw [Array.getElem?_eq_none h1] at hh; cases hh
    exact (h.block g hlt (hn g hg)).trans hh
end
/-- A row of the call's own from a place on, read. -/
theorem own_set {w : World} {base : Nat} {e : TypeId} {size n : Nat} {v : Value} {xs : List Value} (k : w.ownsRow base e size v n xs) {g o : Nat} (hg : g < base) (u : Value) : (w.setCell ⟨g, o, none⟩ u).ownsRow base e size v n xs :=
  ((Only.refl (fun x => x = g) w).set (.inl rfl) u).own k (fun x hx hs => by omega)
end Go.Proofs.YtbpkckahonmpkaaDoor
namespace Go.Proofs.YtbpkckahonmpkaaDoor
open Go.RowKit

/-- A copy: a slice that owns its row. -/
def CopyOwn (t : TypeId) (size n : Nat) (xs : List Value) (w : World) (e : Ending) (w' : World) : Prop :=
  ∃ A c, e = .returned (.slice A n c) ∧ w'.ownsRow w.heap.size t size (.slice A n c) n xs ∧ Below w.heap.size w w'
set_option maxHeartbeats 400000 in
theorem CloneI_own (A : Option Addr) (l : List Int) (c : Nat) (w : World) (hr : Reads w w.heap.size 1 A l.length (cellsI .i64 l)) (hl : l.length ≤ 1000000) :
    Calls Tryd.prog 44 #[.slice A l.length c] w (CopyOwn 3 1 l.length (cellsI .i64 l) w) := by
  obtain ⟨i0, hi, hz0, hz1, hz2⟩ := info_parts infoI
  have HR := Lib.hid hr
  cases A with
  | none =>
    have hn : l = [] := by
      rcases Nat.eq_zero_or_pos l.length with h0 | h0
      · exact List.eq_nil_of_length_eq_zero h0
      · obtain ⟨ad, hx, _⟩ := hr.2 h0
        cases hx
    subst hn
    clear hr
    have hnil := fun W => Lib.run_eql_slice_nil (P := Tryd.prog) W 23 _ none 0 c 0 0 Tryd.underlying23
    go_enter Tryd.func44, Tryd.ntmps44
    go_wp2
    go_ret
    exact ⟨none, 0, rfl, World.ownsRow_nil _ _ _ _, Below.refl _ _⟩
  | some ad =>
    clear hr
    have hnil := fun W => Lib.run_eql_slice_nil (P := Tryd.prog) W 23 _ (some ad) l.length c 0 0 Tryd.underlying23
    go_enter Tryd.func44, Tryd.ntmps44
    go_wp2_with (at_builtin; refine wpList_append_any _ rfl (.tmp 5) (.tmp 6) 23 rfl w.heap.size 3 i0 (.int .i64 0) 1 8 Tryd.underlying23 hi hz0 hz1 hz2 rfl (by decide) (.slice (some ⟨w.heap.size, 0, none⟩) 0 0) 0 [] rfl (own_empty' _ _ _) w.heap.size (some ad) l.length c (cellsI .i64 l) rfl (HR.out.alloc (Nat.le_refl _) _) (cellsI_one _) (by unfold maxLen; omega) (by omega) (by simp) ?_; intro v3 w3 hown3 hg3 hat3)
    go_ret
    rw [Nat.zero_add, List.nil_append] at hown3
    obtain ⟨A3, c3, rfl, hc3⟩ := own_slice hown3
    exact ⟨A3, c3, rfl, hown3, ((Below.refl _ w).alloc (Nat.le_refl _) _).grown hg3 (by simp) (fun k e => by simp [Value.ownBlock] at e; omega)⟩

set_option maxHeartbeats 400000 in
theorem CloneP_own (A : Option Addr) (l : List Pd) (c : Nat) (w : World) (hr : Reads w w.heap.size 3 A l.length (cellsP l)) (hl : l.length ≤ 1000000) :
    Calls Tryd.prog 45 #[.slice A l.length c] w (CopyOwn 33 3 l.length (cellsP l) w) := by
  obtain ⟨i0, hi, hz0, hz1, hz2⟩ := info_parts infoP
  have HR := Lib.hid hr
  cases A with
  | none =>
    have hn : l = [] := by
      rcases Nat.eq_zero_or_pos l.length with h0 | h0
      · exact List.eq_nil_of_length_eq_zero h0
      · obtain ⟨ad, hx, _⟩ := hr.2 h0
        cases hx
    subst hn
    clear hr
    have hnil := fun W => Lib.run_eql_slice_nil (P := Tryd.prog) W 24 _ none 0 c 0 0 Tryd.underlying24
    go_enter Tryd.func45, Tryd.ntmps45
    go_wp2
    go_ret
    exact ⟨none, 0, rfl, World.ownsRow_nil _ _ _ _, Below.refl _ _⟩
  | some ad =>
    clear hr
    have hnil := fun W => Lib.run_eql_slice_nil (P := Tryd.prog) W 24 _ (some ad) l.length c 0 0 Tryd.underlying24
    go_enter Tryd.func45, Tryd.ntmps45
    go_wp2_with (at_builtin; refine wpList_append_any _ rfl (.tmp 5) (.tmp 6) 24 rfl w.heap.size 33 i0 _ 3 24 Tryd.underlying24 hi hz0 hz1 hz2 rfl (by decide) (.slice (some ⟨w.heap.size, 0, none⟩) 0 0) 0 [] rfl (own_empty' _ _ _) w.heap.size (some ad) l.length c (cellsP l) rfl (HR.out.alloc (Nat.le_refl _) _) (cellsP_one _) (by unfold maxLen; omega) (by omega) (by simp) ?_; intro v3 w3 hown3 hg3 hat3)
    go_ret
    rw [Nat.zero_add, List.nil_append] at hown3
    obtain ⟨A3, c3, rfl, hc3⟩ := own_slice hown3
    exact ⟨A3, c3, rfl, hown3, ((Below.refl _ w).alloc (Nat.le_refl _) _).grown hg3 (by simp) (fun k e => by simp [Value.ownBlock] at e; omega)⟩
/-- A transactional id that owns its lists, each in a block of its own. -/
def CoOwn (c : Co) (w : World) (e : Ending) (w' : World) : Prop :=
  ∃ (A1 D1 : Option Addr) (c1 e1 : Nat), e = .returned (.agg #[.int .i8 c.st, .int .i64 c.pid, .int .i64 c.ep, .int .i64 c.tm, .int .i64 c.th, .slice A1 c.ps.length c1, .slice D1 c.qs.length e1, .int .i64 c.ag]) ∧ w'.ownsRow w.heap.size 3 1 (.slice A1 c.ps.length c1) c.ps.length (cellsI .i64 c.ps) ∧ w'.ownsRow w.heap.size 33 3 (.slice D1 c.qs.length e1) c.qs.length (cellsP c.qs) ∧
    (∀ y, (Value.slice A1 c.ps.length c1).ownBlock = some y → (Value.slice D1 c.qs.length e1).ownBlock ≠ some y) ∧ Below w.heap.size w w'

set_option maxRecDepth 100000 in
set_option maxHeartbeats 1000000 in
theorem own_own (c : Co) (A1 D1 : Option Addr) (c1 e1 : Nat) (w : World) (h1 : CoR w w.heap.size c A1 D1) :
    Calls Tryd.prog 71 #[(.agg #[.int .i8 c.st, .int .i64 c.pid, .int .i64 c.ep, .int .i64 c.tm, .int .i64 c.th, .slice A1 c.ps.length c1, .slice D1 c.qs.length e1, .int .i64 c.ag])] w (CoOwn c w) := by
  have hps := h1.2.2.1
  have hqs := h1.2.2.2
  have h2 := (h1.al (.cells #[.int .i8 c.st, .int .i64 c.pid, .int .i64 c.ep, .int .i64 c.tm, .int .i64 c.th, .slice A1 c.ps.length c1, .slice D1 c.qs.length e1, .int .i64 c.ag] 26)).al (.cells #[.int .i8 0, .int .i64 0, .int .i64 0, .int .i64 0, .int .i64 0, .slice none 0 0, .slice none 0 0, .int .i64 0] 26)
  have HC := Lib.hid (CloneI_own A1 c.ps c1 _ h2.1 (by omega))
  have H2 := Lib.hid h2
  have K1 := Lib.hid ((Blk.new w 26 #[.int .i8 c.st, .int .i64 c.pid, .int .i64 c.ep, .int .i64 c.tm, .int .i64 c.th, .slice A1 c.ps.length c1, .slice D1 c.qs.length e1, .int .i64 c.ag]).alloc (.cells #[.int .i8 0, .int .i64 0, .int .i64 0, .int .i64 0, .int .i64 0, .slice none 0 0, .slice none 0 0, .int .i64 0] 26))
  have kk := Blk.new (w.alloc (.cells #[.int .i8 c.st, .int .i64 c.pid, .int .i64 c.ep, .int .i64 c.tm, .int .i64 c.th, .slice A1 c.ps.length c1, .slice D1 c.qs.length e1, .int .i64 c.ag] 26)) 26 #[.int .i8 0, .int .i64 0, .int .i64 0, .int .i64 0, .int .i64 0, .slice none 0 0, .slice none 0 0, .int .i64 0]
  rw [World.size_alloc] at kk
  have K2 := Lib.hid kk
  have HB := Lib.hid (bal (bal (Below.refl w.heap.size w) (.cells #[.int .i8 c.st, .int .i64 c.pid, .int .i64 c.ep, .int .i64 c.tm, .int .i64 c.th, .slice A1 c.ps.length c1, .slice D1 c.qs.length e1, .int .i64 c.ag] 26)) (.cells #[.int .i8 0, .int .i64 0, .int .i64 0, .int .i64 0, .int .i64 0, .slice none 0 0, .slice none 0 0, .int .i64 0] 26))
  have Q1 := Lib.hid h1.2.1
  clear h1 h2 kk
  go_enter Tryd.func71, Tryd.ntmps71
  go_wp2_with fail
  refine HC.out.mono ?_
  rintro e w2 ⟨A2, c2, rfl, r2, b2⟩
  have hz2 := b2.size
  simp only [World.size_alloc] at hz2 r2
  have k1 := K1.out.below b2 (by simp only [World.size_alloc]; omega)
  have k2 := K2.out.below b2 (by simp only [World.size_alloc]; omega)
  have u1 := k1.cell 5
  have u2 := k1.frozen 5
  have u3 := k1.cell 6
  have R2 := Lib.hid r2
  clear r2
  go_wp2_with fail
  clear u1 u2 u3
  have k3 := k1.set_ 5 (.slice A2 c.ps.length c2)
  have k4 := k2.far (p := ⟨w.heap.size, 5, none⟩) (by simp) (.slice A2 c.ps.length c2)
  have b3 : Below w.heap.size w (w2.setCell ⟨w.heap.size, 5, none⟩ (.slice A2 c.ps.length c2)) := bset (btrans HB.out b2) (Nat.le_refl _) _
  have rr : Reads (w2.setCell ⟨w.heap.size, 5, none⟩ (.slice A2 c.ps.length c2)) w.heap.size 3 D1 c.qs.length (cellsP c.qs) := Q1.out.below b3
  have r3 := own_set R2.out (g := w.heap.size) (o := 5) (by omega) (.slice A2 c.ps.length c2)
  have hle := b2.size
  generalize hw3 : w2.setCell ⟨w.heap.size, 5, none⟩ (.slice A2 c.ps.length c2) = w3 at *
  have hz3 : w.heap.size + 2 ≤ w3.heap.size := by rw [← hw3]; simpa [World.setCell] using hz2
  have R3 := Lib.hid r3
  clear r3
  refine (CloneP_own D1 c.qs e1 w3 (rr.more b3.size) (by omega)).mono ?_
  rintro e w4 ⟨A4, c4, rfl, r4, b4⟩
  have R5 := Lib.hid (own_below R3.out b4)
  have R4 := Lib.hid r4
  have SEP := Lib.hid (show ∀ y, (Value.slice A2 c.ps.length c2).ownBlock = some y → (Value.slice A4 c.qs.length c4).ownBlock ≠ some y from fun y hy e => by
    have h1 := (R3.out.lt y hy).2
    have h2 := (R4.out.lt y e).1
    omega)
  clear r4
  have k5 := k3.below b4 (by omega)
  have k6 := k4.below b4 (by omega)
  have x1 := k5.cell 0
  have x2 := k5.cell 1
  have x3 := k5.cell 2
  have x4 := k5.cell 3
  have x5 := k5.cell 4
  have x6 := k5.cell 5
  have x7 := k5.cell 6
  have x8 := k5.cell 7
  have x9 := k5.frozen 6
  have y0 := k6.cell 0
  have z0 := k6.frozen 0
  have y1 := k6.cell 1
  have z1 := k6.frozen 1
  have y2 := k6.cell 2
  have z2 := k6.frozen 2
  have y3 := k6.cell 3
  have z3 := k6.frozen 3
  have y4 := k6.cell 4
  have z4 := k6.frozen 4
  have y5 := k6.cell 5
  have z5 := k6.frozen 5
  have y6 := k6.cell 6
  have z6 := k6.frozen 6
  have y7 := k6.cell 7
  have z7 := k6.frozen 7
  go_wp2_with fail
  refine bodyPost_ret (v := .agg #[.int .i8 c.st, .int .i64 c.pid, .int .i64 c.ep, .int .i64 c.tm, .int .i64 c.th, .slice A2 c.ps.length c2, .slice A4 c.qs.length c4, .int .i64 c.ag]) (by simp [results, Tryd.results71, go_sem, y0, y1, y2, y3, y4, y5, y6, y7]) rfl ⟨A2, A4, c2, c4, rfl, ?_, ?_, SEP.out, ?_⟩
  · refine own_base (base := w.heap.size + 1 + 1) ?_ (by omega)
    repeat refine own_set ?_ (by omega) _
    exact R5.out
  · refine own_base (base := w3.heap.size) ?_ (by omega)
    repeat refine own_set ?_ (by omega) _
    exact R4.out
  · exact bset (bset (bset (bset (bset (bset (bset (bset (bset (btrans b3 b4) (Nat.le_refl _) _) (by omega) _) (by omega) _) (by omega) _) (by omega) _) (by omega) _) (by omega) _) (by omega) _) (by omega) _

set_option maxRecDepth 100000 in
set_option maxHeartbeats 1000000 in
theorem ongoing_any (c : Co) (A1 D1 : Option Addr) (c1 e1 : Nat) (w : World) (h1 : CoR w w.heap.size c A1 D1) :
    Calls Tryd.prog 67 #[(.agg #[.int .i8 c.st, .int .i64 c.pid, .int .i64 c.ep, .int .i64 c.tm, .int .i64 c.th, .slice A1 c.ps.length c1, .slice D1 c.qs.length e1, .int .i64 c.ag])] w (CoOwn { c with st := 2 } w) := by
  have h2 := (h1.al (.cells #[.int .i8 c.st, .int .i64 c.pid, .int .i64 c.ep, .int .i64 c.tm, .int .i64 c.th, .slice A1 c.ps.length c1, .slice D1 c.qs.length e1, .int .i64 c.ag] 26)).al (.cells #[.int .i8 0, .int .i64 0, .int .i64 0, .int .i64 0, .int .i64 0, .slice none 0 0, .slice none 0 0, .int .i64 0] 26)
  have HC := Lib.hid (own_own c A1 D1 c1 e1 _ h2)
  have K1 := Lib.hid ((Blk.new w 26 #[.int .i8 c.st, .int .i64 c.pid, .int .i64 c.ep, .int .i64 c.tm, .int .i64 c.th, .slice A1 c.ps.length c1, .slice D1 c.qs.length e1, .int .i64 c.ag]).alloc (.cells #[.int .i8 0, .int .i64 0, .int .i64 0, .int .i64 0, .int .i64 0, .slice none 0 0, .slice none 0 0, .int .i64 0] 26))
  have kk := Blk.new (w.alloc (.cells #[.int .i8 c.st, .int .i64 c.pid, .int .i64 c.ep, .int .i64 c.tm, .int .i64 c.th, .slice A1 c.ps.length c1, .slice D1 c.qs.length e1, .int .i64 c.ag] 26)) 26 #[.int .i8 0, .int .i64 0, .int .i64 0, .int .i64 0, .int .i64 0, .slice none 0 0, .slice none 0 0, .int .i64 0]
  rw [World.size_alloc] at kk
  have K2 := Lib.hid kk
  have HB := Lib.hid (bal (bal (Below.refl w.heap.size w) (.cells #[.int .i8 c.st, .int .i64 c.pid, .int .i64 c.ep, .int .i64 c.tm, .int .i64 c.th, .slice A1 c.ps.length c1, .slice D1 c.qs.length e1, .int .i64 c.ag] 26)) (.cells #[.int .i8 0, .int .i64 0, .int .i64 0, .int .i64 0, .int .i64 0, .slice none 0 0, .slice none 0 0, .int .i64 0] 26))
  clear h1 h2 kk
  go_enter Tryd.func67, Tryd.ntmps67
  go_wp2_with fail
  refine HC.out.mono ?_
  rintro e w2 ⟨A2, D2, c2, e2, rfl, r2, r3, sep, b2⟩
  have hz2 := b2.size
  simp only [World.size_alloc] at hz2 r2 r3
  have R2 := Lib.hid r2
  have R3 := Lib.hid r3
  have SEP := Lib.hid sep
  clear r2 r3 sep
  have k1 := K1.out.below b2 (by simp only [World.size_alloc]; omega)
  have k2 := K2.out.below b2 (by simp only [World.size_alloc]; omega)
  have x0 := k1.cell 0
  have f0 := k1.frozen 0
  have x1 := k1.cell 1
  have f1 := k1.frozen 1
  have x2 := k1.cell 2
  have f2 := k1.frozen 2
  have x3 := k1.cell 3
  have f3 := k1.frozen 3
  have x4 := k1.cell 4
  have f4 := k1.frozen 4
  have x5 := k1.cell 5
  have f5 := k1.frozen 5
  have x6 := k1.cell 6
  have f6 := k1.frozen 6
  have x7 := k1.cell 7
  have f7 := k1.frozen 7
  have y0 := k2.cell 0
  have z0 := k2.frozen 0
  have y1 := k2.cell 1
  have z1 := k2.frozen 1
  have y2 := k2.cell 2
  have z2 := k2.frozen 2
  have y3 := k2.cell 3
  have z3 := k2.frozen 3
  have y4 := k2.cell 4
  have z4 := k2.frozen 4
  have y5 := k2.cell 5
  have z5 := k2.frozen 5
  have y6 := k2.cell 6
  have z6 := k2.frozen 6
  have y7 := k2.cell 7
  have z7 := k2.frozen 7
  have hlt1 : w.heap.size < w2.heap.size := by omega
  have hlt2 : w.heap.size + 1 < w2.heap.size := by omega
  have B2 := Lib.hid (btrans HB.out b2)
  clear k1 k2 b2
  go_wp2_with fail
  refine bodyPost_ret (v := .agg #[.int .i8 2, .int .i64 c.pid, .int .i64 c.ep, .int .i64 c.tm, .int .i64 c.th, .slice A2 c.ps.length c2, .slice D2 c.qs.length e2, .int .i64 c.ag]) (by simp [results, Tryd.results67, go_sem, y0, y1, y2, y3, y4, y5, y6, y7]) rfl ⟨A2, D2, c2, e2, rfl, ?_, ?_, SEP.out, ?_⟩
  · refine own_base (base := w.heap.size + 1 + 1) ?_ (by omega)
    repeat refine own_set ?_ (by omega) _
    exact R2.out
  · refine own_base (base := w.heap.size + 1 + 1) ?_ (by omega)
    repeat refine own_set ?_ (by omega) _
    exact R3.out
  · repeat refine bset ?_ (by omega) _
    exact B2.out
end Go.Proofs.YtbpkckahonmpkaaDoor
