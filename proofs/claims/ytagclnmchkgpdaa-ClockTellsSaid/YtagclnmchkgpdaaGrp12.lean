/-
  Layer 21: a state behind a tick, a state made young: by the program.
-/
import Derived.Test.YtagclnmchkgpdaaGrp11
set_option linter.unusedVariables false
set_option linter.unusedSimpArgs false
namespace Go.Proofs.Ytagclnmchkgpdaa
open Go.RowKit
/-- A state whose first k transactional ids have become others. -/
def Sta.upto (s : Sta) (fs : Nat → Co) (k : Nat) : Sta := { s with tid := fun j => if j < k then fs j else s.tid j }
theorem upto_put (s : Sta) (fs : Nat → Co) (k : Nat) (a : Sad) : stX ((s.upto fs k).put k (fs k)) a = stX (s.upto fs (k + 1)) a :=
  stX_congr rfl (fun _ _ => rfl) (fun j _ => by
    show (if j = k then fs k else if j < k then fs j else s.tid j) = if j < k + 1 then fs j else s.tid j
    by_cases h : j = k
    · rw [if_pos h, if_pos (by omega), h]
    · rw [if_neg h]
      by_cases h2 : j < k
      · rw [if_pos h2, if_pos (by omega)]
      · rw [if_neg h2, if_neg (by omega)]) (fun _ _ => ⟨rfl, rfl, rfl, rfl⟩)
theorem upto_zero (s : Sta) (fs : Nat → Co) (a : Sad) : stX (s.upto fs 0) a = stX s a :=
  stX_congr rfl (fun _ _ => rfl) (fun j _ => show (if j < 0 then fs j else s.tid j) = s.tid j from if_neg (Nat.not_lt_zero j)) (fun _ _ => ⟨rfl, rfl, rfl, rfl⟩)
/-- A state that is returned. -/
def StPost (t : Sta) (w : World) (e : Ending) (w' : World) : Prop :=
  ∃ a, e = .returned (.agg (stX t a)) ∧ StR w' w'.heap.size t a ∧ Below w.heap.size w w'
/-- .. its lists are new. -/
def StNew (t : Sta) (w : World) (e : Ending) (w' : World) : Prop :=
  ∃ a, e = .returned (.agg (stX t a)) ∧ StR w' w'.heap.size t a ∧ Below w.heap.size w w' ∧ ∀ k, k < 3 → NewAt w.heap.size (t.tid k).ps.length (a.A k) ∧ NewAt w.heap.size (t.tid k).qs.length (a.D k)
theorem upto_tid (s : Sta) (fs : Nat → Co) {k : Nat} (h : k < 3) : (s.upto fs 3).tid k = fs k := if_pos h
section
attribute [-go_sem] loadCells storeVar
set_option maxRecDepth 100000 in
theorem each_ret_tick (X : Array Value) (tmps : Array Value) (b : Nat) (W : World) (h2 : tmps[4]?.getD undef = .pointer (some ⟨b, 0, none⟩)) (hK : Blk W b 31 X) (hX : X.size = 31) :
    (results Try.f28 tmps).run Try.prog W = .ok (.agg X) W := by
  have LC := bk_load (P := Try.prog) 31 hK hX
  clear hK
  simp [results, Try.results28, go_sem, h2, LC]
set_option maxRecDepth 100000 in
set_option maxHeartbeats 8000000 in
theorem each_tick (s : Sta) (a : Sad) (fs : Nat → Co) (w : World) (h : StR w w.heap.size s a) (hc : ∀ k : Nat, k < 3 → ∀ W, Below w.heap.size w W → Calls Try.prog 29 #[.agg (stX s a), .int .i64 k] W (CoNew (fs k) W)) :
    Calls Try.prog 28 #[.agg (stX s a), .func (.func 29) #[.agg (stX s a)] #[]] w (StNew (s.upto fs 3) w) := by
  obtain ⟨W0, hW0⟩ : ∃ W0, W0 = (w.alloc (.cells (stX s a) 31)).alloc (.cells #[.int .i64 0, .int .i8 0, .int .i64 0, .int .i64 0, .int .i64 0, .int .i64 0, .slice none 0 0, .slice none 0 0, .int .i64 0, .int .i8 0, .int .i64 0, .int .i64 0, .int .i64 0, .int .i64 0, .slice none 0 0, .slice none 0 0, .int .i64 0, .int .i8 0, .int .i64 0, .int .i64 0, .int .i64 0, .int .i64 0, .slice none 0 0, .slice none 0 0, .int .i64 0, .int .i64 0, .int .i64 0, .int .i64 0, .int .i64 0, .int .i64 0, .int .i64 0] 31) := ⟨_, rfl⟩
  have s0 : W0.heap.size = w.heap.size + 1 + 1 := by rw [hW0]; simp
  have B0 : Below w.heap.size w W0 := by rw [hW0]; exact bal (bal (Below.refl _ _) _) _
  have K1 : Blk W0 w.heap.size 31 (stX s a) := by rw [hW0]; exact (Blk.new w 31 (stX s a)).alloc _
  have K2 : Blk W0 (w.heap.size + 1) 31 #[.int .i64 0, .int .i8 0, .int .i64 0, .int .i64 0, .int .i64 0, .int .i64 0, .slice none 0 0, .slice none 0 0, .int .i64 0, .int .i8 0, .int .i64 0, .int .i64 0, .int .i64 0, .int .i64 0, .slice none 0 0, .slice none 0 0, .int .i64 0, .int .i8 0, .int .i64 0, .int .i64 0, .int .i64 0, .int .i64 0, .slice none 0 0, .slice none 0 0, .int .i64 0, .int .i64 0, .int .i64 0, .int .i64 0, .int .i64 0, .int .i64 0, .int .i64 0] := by rw [hW0]; exact bk_new _ 31 #[.int .i64 0, .int .i8 0, .int .i64 0, .int .i64 0, .int .i64 0, .int .i64 0, .slice none 0 0, .slice none 0 0, .int .i64 0, .int .i8 0, .int .i64 0, .int .i64 0, .int .i64 0, .int .i64 0, .slice none 0 0, .slice none 0 0, .int .i64 0, .int .i8 0, .int .i64 0, .int .i64 0, .int .i64 0, .int .i64 0, .slice none 0 0, .slice none 0 0, .int .i64 0, .int .i64 0, .int .i64 0, .int .i64 0, .int .i64 0, .int .i64 0, .int .i64 0] (by simp)
  have HW := Lib.hid hW0
  have HS := Lib.hid s0
  have HB := Lib.hid B0
  have HK := Lib.hid K1
  have HK2 := Lib.hid K2
  have H := Lib.hid h
  have HC := Lib.hid hc
  clear hW0 s0 B0 K1 K2 h hc
  go_enter Try.func28, Try.ntmps28
  go_upto_region 1 with (fail)
  rw [← HW.out]
  go_wp2_with fail
  go_loopg [6] 3 (fun mm y wq => ∃ (k : Nat) (c : Sad), k ≤ 3 ∧ y = .int .i64 k ∧ mm = 3 - k ∧ Blk wq w.heap.size 31 (stX (s.upto fs k) c) ∧ Blk wq (w.heap.size + 1) 31 #[.int .i64 0, .int .i8 0, .int .i64 0, .int .i64 0, .int .i64 0, .int .i64 0, .slice none 0 0, .slice none 0 0, .int .i64 0, .int .i8 0, .int .i64 0, .int .i64 0, .int .i64 0, .int .i64 0, .slice none 0 0, .slice none 0 0, .int .i64 0, .int .i8 0, .int .i64 0, .int .i64 0, .int .i64 0, .int .i64 0, .slice none 0 0, .slice none 0 0, .int .i64 0, .int .i64 0, .int .i64 0, .int .i64 0, .int .i64 0, .int .i64 0, .int .i64 0] ∧ Below w.heap.size w wq ∧ (∀ j, j < k → CoR wq wq.heap.size (fs j) (c.A j) (c.D j) ∧ NewAt (w.heap.size + 1 + 1) (fs j).ps.length (c.A j) ∧ NewAt (w.heap.size + 1 + 1) (fs j).qs.length (c.D j)))
  case atStart => exact ⟨0, a, by omega, rfl, rfl, (by rw [upto_zero]; exact HK.out), HK2.out, HB.out, fun j hj => by omega⟩
  case round =>
    obtain ⟨k, c, hk, rfl, hmm, hk1, hk2, hbw, hl⟩ := hrel
    have HMM := Lib.hid hmm
    have KW := Lib.hid hk1
    have KV := Lib.hid hk2
    have BW' := Lib.hid hbw
    have HL := Lib.hid hl
    clear hmm hk1 hk2 hbw hl
    by_cases hlt : k < 3
    · have d3 : decide ((k : Int) < 3) = true := decide_eq_true (by omega)
      have i1 : (0 : Int) ≤ (k : Int) := by omega
      have i2 : (k : Int) < 3 := by omega
      have CA := Lib.hid (HC.out k hlt wr BW'.out)
      obtain ⟨d, hd⟩ : ∃ d, d = fs k := ⟨_, rfl⟩
      rw [← hd] at CA
      have HD := Lib.hid hd
      clear hd
      go_wp2_with fail
      refine CA.out.mono ?_
      rintro e w1 ⟨A5, D5, c5, e5, rfl, r5, b5, na, nd⟩
      obtain ⟨W9, st9, kk, fb, fh, fsz⟩ := st_put (KW.out.below b5 KW.out.lt) k hlt d A5 D5 c5 e5
      have K9 := Lib.hid kk
      have BB := Lib.hid (fb w.heap.size w (Nat.le_refl _) (BW'.out.trans (b5.mono BW'.out.size)))
      have KV9 := Lib.hid (show Blk W9 (w.heap.size + 1) 31 #[.int .i64 0, .int .i8 0, .int .i64 0, .int .i64 0, .int .i64 0, .int .i64 0, .slice none 0 0, .slice none 0 0, .int .i64 0, .int .i8 0, .int .i64 0, .int .i64 0, .int .i64 0, .int .i64 0, .slice none 0 0, .slice none 0 0, .int .i64 0, .int .i8 0, .int .i64 0, .int .i64 0, .int .i64 0, .int .i64 0, .slice none 0 0, .slice none 0 0, .int .i64 0, .int .i64 0, .int .i64 0, .int .i64 0, .int .i64 0, .int .i64 0, .int .i64 0] from by
        have := KV.out.below b5 KV.out.lt
        exact (fh (w.heap.size + 1) (by omega)).trans this)
      have hlo : w.heap.size + 1 + 1 ≤ wr.heap.size := by have := KV.out.lt; omega
      have NEW := Lib.hid (show CoR W9 W9.heap.size d A5 D5 ∧ NewAt (w.heap.size + 1 + 1) d.ps.length A5 ∧ NewAt (w.heap.size + 1 + 1) d.qs.length D5 from ⟨r5.keepN na nd (by omega) fh fsz, na.mono hlo, nd.mono hlo⟩)
      have OLD := Lib.hid (show ∀ j, j < k → CoR W9 W9.heap.size (fs j) (c.A j) (c.D j) ∧ NewAt (w.heap.size + 1 + 1) (fs j).ps.length (c.A j) ∧ NewAt (w.heap.size + 1 + 1) (fs j).qs.length (c.D j) from fun j hj => by
        obtain ⟨h1, h2, h3⟩ := HL.out j hj
        exact ⟨(h1.up b5).keepN h2 h3 (by omega) fh fsz, h2, h3⟩)
      clear kk fb fh fsz r5 b5 na nd hlo
      go_wp2_with fail
      go_roundg (gk - 1)
      case measure => have := HMM.out; omega
      case rel =>
        refine ⟨k + 1, c.put k A5 D5 c5 e5, by omega, by go_num, by have := HMM.out; omega, ?_, KV9.out, BB.out, fun j hj => ?_⟩
        · have := K9.out
          rw [HD.out, upto_put] at this
          exact this
        · by_cases hjk : j = k
          · subst hjk
            rw [show (c.put j A5 D5 c5 e5).A j = A5 from if_pos rfl, show (c.put j A5 D5 c5 e5).D j = D5 from if_pos rfl, ← HD.out]
            exact NEW.out
          · rw [show (c.put k A5 D5 c5 e5).A j = c.A j from if_neg hjk, show (c.put k A5 D5 c5 e5).D j = c.D j from if_neg hjk]
            exact OLD.out j (by omega)
    · obtain rfl : k = 3 := by omega
      have d3 : decide (((3 : Nat) : Int) < 3) = false := by decide
      have L31 := st_load KW.out
      obtain ⟨X, hX⟩ : ∃ X, X = stX (s.upto fs 3) c := ⟨_, rfl⟩
      rw [← hX] at L31
      have hXs : X.size = 31 := by rw [hX]; rfl
      have hX1 : X.all (·.oneCell') = true := by rw [hX]; exact stX_one _ _
      obtain ⟨W9, st9, kk, fb, fh, fsz⟩ := bk_store (P := Try.prog) (ty := 31) (cs := X) 31 KV.out infoSta rfl hXs hX1
      have BB := Lib.hid (fb w.heap.size w (by omega) BW'.out)
      have KK := Lib.hid kk
      have LL := Lib.hid (show ∀ j, j < 3 → CoR W9 W9.heap.size (fs j) (c.A j) (c.D j) ∧ NewAt w.heap.size (fs j).ps.length (c.A j) ∧ NewAt w.heap.size (fs j).qs.length (c.D j) from fun j hj => by
        obtain ⟨h1, h2, h3⟩ := HL.out j hj
        exact ⟨h1.keepN h2 h3 (by omega) fh fsz, h2.mono (by omega), h3.mono (by omega)⟩)
      have HX := Lib.hid hX
      have HXS := Lib.hid hXs
      clear kk fb fh fsz hX hXs hX1
      go_wp2_with fail
      refine bodyPost_ret (v := .agg X) (each_ret_tick X _ (w.heap.size + 1) _ rfl KK.out HXS.out) rfl ?_
      refine ⟨c, by rw [HX.out], fun k hk => ?_, BB.out, fun k hk => ?_⟩
      · rw [upto_tid s fs hk]; exact (LL.out k hk).1
      · rw [upto_tid s fs hk]; exact (LL.out k hk).2
set_option maxRecDepth 100000 in
theorem each_ret_young (X : Array Value) (tmps : Array Value) (b : Nat) (W : World) (h2 : tmps[4]?.getD undef = .pointer (some ⟨b, 0, none⟩)) (hK : Blk W b 31 X) (hX : X.size = 31) :
    (results Try.f28 tmps).run Try.prog W = .ok (.agg X) W := by
  have LC := bk_load (P := Try.prog) 31 hK hX
  clear hK
  simp [results, Try.results28, go_sem, h2, LC]
set_option maxRecDepth 100000 in
set_option maxHeartbeats 8000000 in
theorem each_young (s : Sta) (a : Sad) (fs : Nat → Co) (w : World) (h : StR w w.heap.size s a) (hc : ∀ k : Nat, k < 3 → ∀ W, Below w.heap.size w W → Calls Try.prog 31 #[.agg (stX s a), .int .i64 k] W (CoNew (fs k) W)) :
    Calls Try.prog 28 #[.agg (stX s a), .func (.func 31) #[.agg (stX s a)] #[]] w (StNew (s.upto fs 3) w) := by
  obtain ⟨W0, hW0⟩ : ∃ W0, W0 = (w.alloc (.cells (stX s a) 31)).alloc (.cells #[.int .i64 0, .int .i8 0, .int .i64 0, .int .i64 0, .int .i64 0, .int .i64 0, .slice none 0 0, .slice none 0 0, .int .i64 0, .int .i8 0, .int .i64 0, .int .i64 0, .int .i64 0, .int .i64 0, .slice none 0 0, .slice none 0 0, .int .i64 0, .int .i8 0, .int .i64 0, .int .i64 0, .int .i64 0, .int .i64 0, .slice none 0 0, .slice none 0 0, .int .i64 0, .int .i64 0, .int .i64 0, .int .i64 0, .int .i64 0, .int .i64 0, .int .i64 0] 31) := ⟨_, rfl⟩
  have s0 : W0.heap.size = w.heap.size + 1 + 1 := by rw [hW0]; simp
  have B0 : Below w.heap.size w W0 := by rw [hW0]; exact bal (bal (Below.refl _ _) _) _
  have K1 : Blk W0 w.heap.size 31 (stX s a) := by rw [hW0]; exact (Blk.new w 31 (stX s a)).alloc _
  have K2 : Blk W0 (w.heap.size + 1) 31 #[.int .i64 0, .int .i8 0, .int .i64 0, .int .i64 0, .int .i64 0, .int .i64 0, .slice none 0 0, .slice none 0 0, .int .i64 0, .int .i8 0, .int .i64 0, .int .i64 0, .int .i64 0, .int .i64 0, .slice none 0 0, .slice none 0 0, .int .i64 0, .int .i8 0, .int .i64 0, .int .i64 0, .int .i64 0, .int .i64 0, .slice none 0 0, .slice none 0 0, .int .i64 0, .int .i64 0, .int .i64 0, .int .i64 0, .int .i64 0, .int .i64 0, .int .i64 0] := by rw [hW0]; exact bk_new _ 31 #[.int .i64 0, .int .i8 0, .int .i64 0, .int .i64 0, .int .i64 0, .int .i64 0, .slice none 0 0, .slice none 0 0, .int .i64 0, .int .i8 0, .int .i64 0, .int .i64 0, .int .i64 0, .int .i64 0, .slice none 0 0, .slice none 0 0, .int .i64 0, .int .i8 0, .int .i64 0, .int .i64 0, .int .i64 0, .int .i64 0, .slice none 0 0, .slice none 0 0, .int .i64 0, .int .i64 0, .int .i64 0, .int .i64 0, .int .i64 0, .int .i64 0, .int .i64 0] (by simp)
  have HW := Lib.hid hW0
  have HS := Lib.hid s0
  have HB := Lib.hid B0
  have HK := Lib.hid K1
  have HK2 := Lib.hid K2
  have H := Lib.hid h
  have HC := Lib.hid hc
  clear hW0 s0 B0 K1 K2 h hc
  go_enter Try.func28, Try.ntmps28
  go_upto_region 1 with (fail)
  rw [← HW.out]
  go_wp2_with fail
  go_loopg [6] 3 (fun mm y wq => ∃ (k : Nat) (c : Sad), k ≤ 3 ∧ y = .int .i64 k ∧ mm = 3 - k ∧ Blk wq w.heap.size 31 (stX (s.upto fs k) c) ∧ Blk wq (w.heap.size + 1) 31 #[.int .i64 0, .int .i8 0, .int .i64 0, .int .i64 0, .int .i64 0, .int .i64 0, .slice none 0 0, .slice none 0 0, .int .i64 0, .int .i8 0, .int .i64 0, .int .i64 0, .int .i64 0, .int .i64 0, .slice none 0 0, .slice none 0 0, .int .i64 0, .int .i8 0, .int .i64 0, .int .i64 0, .int .i64 0, .int .i64 0, .slice none 0 0, .slice none 0 0, .int .i64 0, .int .i64 0, .int .i64 0, .int .i64 0, .int .i64 0, .int .i64 0, .int .i64 0] ∧ Below w.heap.size w wq ∧ (∀ j, j < k → CoR wq wq.heap.size (fs j) (c.A j) (c.D j) ∧ NewAt (w.heap.size + 1 + 1) (fs j).ps.length (c.A j) ∧ NewAt (w.heap.size + 1 + 1) (fs j).qs.length (c.D j)))
  case atStart => exact ⟨0, a, by omega, rfl, rfl, (by rw [upto_zero]; exact HK.out), HK2.out, HB.out, fun j hj => by omega⟩
  case round =>
    obtain ⟨k, c, hk, rfl, hmm, hk1, hk2, hbw, hl⟩ := hrel
    have HMM := Lib.hid hmm
    have KW := Lib.hid hk1
    have KV := Lib.hid hk2
    have BW' := Lib.hid hbw
    have HL := Lib.hid hl
    clear hmm hk1 hk2 hbw hl
    by_cases hlt : k < 3
    · have d3 : decide ((k : Int) < 3) = true := decide_eq_true (by omega)
      have i1 : (0 : Int) ≤ (k : Int) := by omega
      have i2 : (k : Int) < 3 := by omega
      have CA := Lib.hid (HC.out k hlt wr BW'.out)
      obtain ⟨d, hd⟩ : ∃ d, d = fs k := ⟨_, rfl⟩
      rw [← hd] at CA
      have HD := Lib.hid hd
      clear hd
      go_wp2_with fail
      refine CA.out.mono ?_
      rintro e w1 ⟨A5, D5, c5, e5, rfl, r5, b5, na, nd⟩
      obtain ⟨W9, st9, kk, fb, fh, fsz⟩ := st_put (KW.out.below b5 KW.out.lt) k hlt d A5 D5 c5 e5
      have K9 := Lib.hid kk
      have BB := Lib.hid (fb w.heap.size w (Nat.le_refl _) (BW'.out.trans (b5.mono BW'.out.size)))
      have KV9 := Lib.hid (show Blk W9 (w.heap.size + 1) 31 #[.int .i64 0, .int .i8 0, .int .i64 0, .int .i64 0, .int .i64 0, .int .i64 0, .slice none 0 0, .slice none 0 0, .int .i64 0, .int .i8 0, .int .i64 0, .int .i64 0, .int .i64 0, .int .i64 0, .slice none 0 0, .slice none 0 0, .int .i64 0, .int .i8 0, .int .i64 0, .int .i64 0, .int .i64 0, .int .i64 0, .slice none 0 0, .slice none 0 0, .int .i64 0, .int .i64 0, .int .i64 0, .int .i64 0, .int .i64 0, .int .i64 0, .int .i64 0] from by
        have := KV.out.below b5 KV.out.lt
        exact (fh (w.heap.size + 1) (by omega)).trans this)
      have hlo : w.heap.size + 1 + 1 ≤ wr.heap.size := by have := KV.out.lt; omega
      have NEW := Lib.hid (show CoR W9 W9.heap.size d A5 D5 ∧ NewAt (w.heap.size + 1 + 1) d.ps.length A5 ∧ NewAt (w.heap.size + 1 + 1) d.qs.length D5 from ⟨r5.keepN na nd (by omega) fh fsz, na.mono hlo, nd.mono hlo⟩)
      have OLD := Lib.hid (show ∀ j, j < k → CoR W9 W9.heap.size (fs j) (c.A j) (c.D j) ∧ NewAt (w.heap.size + 1 + 1) (fs j).ps.length (c.A j) ∧ NewAt (w.heap.size + 1 + 1) (fs j).qs.length (c.D j) from fun j hj => by
        obtain ⟨h1, h2, h3⟩ := HL.out j hj
        exact ⟨(h1.up b5).keepN h2 h3 (by omega) fh fsz, h2, h3⟩)
      clear kk fb fh fsz r5 b5 na nd hlo
      go_wp2_with fail
      go_roundg (gk - 1)
      case measure => have := HMM.out; omega
      case rel =>
        refine ⟨k + 1, c.put k A5 D5 c5 e5, by omega, by go_num, by have := HMM.out; omega, ?_, KV9.out, BB.out, fun j hj => ?_⟩
        · have := K9.out
          rw [HD.out, upto_put] at this
          exact this
        · by_cases hjk : j = k
          · subst hjk
            rw [show (c.put j A5 D5 c5 e5).A j = A5 from if_pos rfl, show (c.put j A5 D5 c5 e5).D j = D5 from if_pos rfl, ← HD.out]
            exact NEW.out
          · rw [show (c.put k A5 D5 c5 e5).A j = c.A j from if_neg hjk, show (c.put k A5 D5 c5 e5).D j = c.D j from if_neg hjk]
            exact OLD.out j (by omega)
    · obtain rfl : k = 3 := by omega
      have d3 : decide (((3 : Nat) : Int) < 3) = false := by decide
      have L31 := st_load KW.out
      obtain ⟨X, hX⟩ : ∃ X, X = stX (s.upto fs 3) c := ⟨_, rfl⟩
      rw [← hX] at L31
      have hXs : X.size = 31 := by rw [hX]; rfl
      have hX1 : X.all (·.oneCell') = true := by rw [hX]; exact stX_one _ _
      obtain ⟨W9, st9, kk, fb, fh, fsz⟩ := bk_store (P := Try.prog) (ty := 31) (cs := X) 31 KV.out infoSta rfl hXs hX1
      have BB := Lib.hid (fb w.heap.size w (by omega) BW'.out)
      have KK := Lib.hid kk
      have LL := Lib.hid (show ∀ j, j < 3 → CoR W9 W9.heap.size (fs j) (c.A j) (c.D j) ∧ NewAt w.heap.size (fs j).ps.length (c.A j) ∧ NewAt w.heap.size (fs j).qs.length (c.D j) from fun j hj => by
        obtain ⟨h1, h2, h3⟩ := HL.out j hj
        exact ⟨h1.keepN h2 h3 (by omega) fh fsz, h2.mono (by omega), h3.mono (by omega)⟩)
      have HX := Lib.hid hX
      have HXS := Lib.hid hXs
      clear kk fb fh fsz hX hXs hX1
      go_wp2_with fail
      refine bodyPost_ret (v := .agg X) (each_ret_young X _ (w.heap.size + 1) _ rfl KK.out HXS.out) rfl ?_
      refine ⟨c, by rw [HX.out], fun k hk => ?_, BB.out, fun k hk => ?_⟩
      · rw [upto_tid s fs hk]; exact (LL.out k hk).1
      · rw [upto_tid s fs hk]; exact (LL.out k hk).2
end
end Go.Proofs.Ytagclnmchkgpdaa
