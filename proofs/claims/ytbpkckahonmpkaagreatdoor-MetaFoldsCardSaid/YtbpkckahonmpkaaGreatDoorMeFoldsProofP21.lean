/-
  Layer 20: the state behind an entry, by the document (Next).
-/
import Derived.Test.YtbpkckahonmpkaaGreatDoorMeFoldsProofP20
import Derived.Deep.LoopGhost
import Derived.Deep.CutBlock
set_option linter.unusedVariables false
set_option linter.unusedSimpArgs false
namespace Go.Proofs.YtbpkckahonmpkaaGreatDoor
open Go.RowKit
theorem may_stR {c : Co} (h : mayB c = true) : -128 ≤ c.st ∧ c.st ≤ 127 := by
  by_cases h0 : c.st = 0
  · omega
  unfold mayB at h
  rw [if_neg h0] at h
  by_cases h2 : c.st = 2
  · omega
  by_cases h3 : c.st = 3
  · omega
  by_cases h4 : c.st = 4
  · omega
  by_cases h5 : c.st = 1 ∨ c.st = 5 ∨ c.st = 6
  · omega
  rw [if_neg h2, if_neg h3, if_neg h4, if_neg h5] at h
  cases h
theorem moveC_may {c : Co} {m : Mt} {made : Int} (h : mayB c = true) (hm : mayM m = true) (hk : ¬ (m.kd = 0 ∨ m.kd = 5 ∨ m.kd = 7)) (he : moveE c m made = 0) : mayB (moveC c m made) = true := by
  have hf := (mayM_fit hm).2.2.2
  have hb := fit_kd hf
  unfold moveE at he
  unfold moveC
  by_cases k1 : m.kd = 1
  · rw [if_pos k1] at he ⊢
    exact (mv_fact (x := ⟨0, min (made + 1) 8, m.tm, Pd0, false, []⟩) h (by unfold mvE; rw [if_pos rfl]; exact he)).may
  by_cases k2 : m.kd = 2
  · rw [if_neg k1, if_pos k2] at he ⊢
    exact (set_ok he).1
  by_cases k3 : m.kd = 3
  · rw [if_neg k1, if_neg k2, if_pos k3] at he ⊢
    exact (mv_fact (x := ⟨3, m.th, 0, Pd0, m.yes, []⟩) h (by unfold mvE; simpa using he)).may
  by_cases k4 : m.kd = 4
  · rw [if_neg k1, if_neg k2, if_neg k3, if_pos k4] at he ⊢
    exact (mv_fact (x := ⟨4, 0, 0, Pd0, false, []⟩) h (by unfold mvE; simpa using he)).may
  rw [if_neg k1, if_neg k2, if_neg k3, if_neg k4]
  unfold fitM at hf
  rw [if_neg (by omega), if_neg k1, if_neg (by omega), if_neg k3, if_pos (by omega)] at hf
  simp only [Bool.and_eq_true] at hf
  exact hf.2
theorem StB.put {s : Sta} {t : Nat} {d : Co} (h : StB s) (hd : -128 ≤ d.st ∧ d.st ≤ 127) : StB (s.put t d) := fun k hk => by
  by_cases e : k = t
  · rw [show (s.put t d).tid k = d from if_pos e]; exact hd
  · rw [show (s.put t d).tid k = s.tid k from if_neg e]; exact h k hk
theorem StB.gr {s s' : Sta} (h : StB s) (e : ∀ k, k < 3 → s'.tid k = s.tid k) : StB s' := fun k hk => by rw [e k hk]; exact h k hk
section
attribute [-go_sem] loadCells storeVar Instr.build
set_option maxRecDepth 100000 in
theorem rnext_ret (X : Array Value) (n : Int) (tmps : Array Value) (b : Nat) (W : World) (h2 : tmps[4]?.getD undef = .pointer (some ⟨b, 0, none⟩)) (h3 : tmps[5]?.getD undef = .int .i64 n) (hK : Blk W b 34 X) (hX : X.size = 31) :
    (results Tryz.f37 tmps).run Tryz.prog W = .ok (.tuple #[.agg X, .int .i64 n]) W := by
  have LC := bk_load (P := Tryz.prog) 31 hK hX
  clear hK
  simp [results, Tryz.results37, go_sem, h2, h3, LC]
set_option maxRecDepth 100000 in
set_option maxHeartbeats 8000000 in
theorem rNext_bad (s : Sta) (a : Sad) (m : Mt) (A1 D1 : Option Addr) (c1 e1 : Nat) (w : World) (h : StR w w.heap.size s a) (h1 : CoR w w.heap.size m.c A1 D1) (hb : StB s) (h8 : -128 ≤ m.c.st) (h9 : m.c.st ≤ 127) (hbad : mayS s = false ∨ mayM m = false) :
    Calls Tryz.prog 37 #[.agg (stX s a), .agg (mtX m A1 D1 c1 e1)] w (NxD s a m A1 D1 sta00 2 w) := by
  obtain ⟨W0, hW0⟩ : ∃ W0, W0 = ((w.alloc (.cells (stX s a) 34)).alloc (.cells (mtX m A1 D1 c1 e1) 42)).alloc (.cells #[.int .i64 0, .int .i8 0, .int .i64 0, .int .i64 0, .int .i64 0, .int .i64 0, .slice none 0 0, .slice none 0 0, .int .i64 0, .int .i8 0, .int .i64 0, .int .i64 0, .int .i64 0, .int .i64 0, .slice none 0 0, .slice none 0 0, .int .i64 0, .int .i8 0, .int .i64 0, .int .i64 0, .int .i64 0, .int .i64 0, .slice none 0 0, .slice none 0 0, .int .i64 0, .int .i64 0, .int .i64 0, .int .i64 0, .int .i64 0, .int .i64 0, .int .i64 0] 34) := ⟨_, rfl⟩
  have s0 : W0.heap.size = w.heap.size + 1 + 1 + 1 := by rw [hW0]; simp
  have B0 : Below w.heap.size w W0 := by rw [hW0]; exact bal (bal (bal (Below.refl _ _) _) _) _
  have K1 : Blk W0 w.heap.size 34 (stX s a) := by rw [hW0]; exact ((Blk.new w 34 (stX s a)).alloc _).alloc _
  have K2 : Blk W0 (w.heap.size + 1) 42 (mtX m A1 D1 c1 e1) := by rw [hW0]; exact (bk_new _ 42 _ (by simp)).alloc _
  have K3 : Blk W0 (w.heap.size + 1 + 1) 34 #[.int .i64 0, .int .i8 0, .int .i64 0, .int .i64 0, .int .i64 0, .int .i64 0, .slice none 0 0, .slice none 0 0, .int .i64 0, .int .i8 0, .int .i64 0, .int .i64 0, .int .i64 0, .int .i64 0, .slice none 0 0, .slice none 0 0, .int .i64 0, .int .i8 0, .int .i64 0, .int .i64 0, .int .i64 0, .int .i64 0, .slice none 0 0, .slice none 0 0, .int .i64 0, .int .i64 0, .int .i64 0, .int .i64 0, .int .i64 0, .int .i64 0, .int .i64 0] := by rw [hW0]; exact bk_new _ 34 _ (by simp)
  have HW := Lib.hid hW0
  have HS := Lib.hid s0
  have HB := Lib.hid B0
  have HK1 := Lib.hid K1
  have HK2 := Lib.hid K2
  have HK3 := Lib.hid K3
  have H := Lib.hid h
  have H1 := Lib.hid h1
  have HP0 := Lib.hid (PF.own (b := w.heap.size) h h1 (by omega) (by omega))
  have HP2 := Lib.hid (PF.own (b := w.heap.size + 1 + 1) h h1 (by omega) (by omega))
  have HSB := Lib.hid hb
  have l1 := st_load K1
  have bd : ∀ W, (Instr.build 34 #[]).run Tryz.prog W = .ok (.agg (stX sta00 sad0)) W := fun W => run_build W 34 _ _ (by kernel_rfl)
  have MS := Lib.hid (rMayS_any s a w.heap.size W0 (h.below B0) B0.size hb)
  have MM := Lib.hid (fun W (hb : Below W0.heap.size W0 W) => rMayM_all m A1 D1 c1 e1 w.heap.size W (h1.below (B0.trans (hb.mono B0.size))) (Nat.le_trans B0.size hb.size) h8 h9)
  clear hW0 s0 B0 K1 K2 K3 h h1 hb h8 h9
  cases hms : mayS s
  · rw [hms] at MS
    clear hms hbad
    go_enter Tryz.func37, Tryz.ntmps37
    go_upto_region 1 with (fail)
    rw [← HW.out]
    go_wp2_with fail
    refine MS.out.mono ?_
    rintro e w1 ⟨rfl, b1⟩
    obtain ⟨W9, st9, k9, fb9, fh9, fs9⟩ := bk_store (P := Tryz.prog) (ty := 34) (cs := stX sta00 sad0) 31 (HK3.out.below b1 HK3.out.lt) infoSta rfl (stX_size ..) (stX_one ..)
    have K9 := Lib.hid k9
    have B9 := Lib.hid (fb9 w.heap.size w (by omega) (HB.out.trans (b1.mono HB.out.size)))
    clear k9 fb9 fh9 fs9
    clear b1 l1
    go_wp2_with fail
    refine bodyPost_ret (v := .tuple #[.agg (stX sta00 sad0), .int .i64 2]) (rnext_ret _ _ _ (w.heap.size + 1 + 1) _ rfl rfl K9.out (stX_size ..)) rfl ?_
    exact ⟨sad0, rfl, sta00_R _ _, B9.out, fun _ _ _ _ _ _ _ => ⟨fun h => absurd h (Nat.lt_irrefl 0), fun h => absurd h (Nat.lt_irrefl 0)⟩⟩
  · have hmm : mayM m = false := by rcases hbad with h | h; rw [hms] at h; cases h; exact h
    rw [hms] at MS
    rw [hmm] at MM
    clear hms hbad hmm
    go_enter Tryz.func37, Tryz.ntmps37
    go_upto_region 1 with (fail)
    rw [← HW.out]
    go_wp2_with fail
    refine MS.out.mono ?_
    rintro e w1 ⟨rfl, b1⟩
    have l2 := mt_load (P := Tryz.prog) (HK2.out.below b1 HK2.out.lt)
    have B1 := Lib.hid b1
    clear b1 l1
    go_wp2_with fail
    refine (MM.out _ B1.out).mono ?_
    rintro e w2 ⟨rfl, b2⟩
    have B2 := Lib.hid (B1.out.trans (b2.mono B1.out.size))
    obtain ⟨W9, st9, k9, fb9, fh9, fs9⟩ := bk_store (P := Tryz.prog) (ty := 34) (cs := stX sta00 sad0) 31 (HK3.out.below B2.out HK3.out.lt) infoSta rfl (stX_size ..) (stX_one ..)
    have K9 := Lib.hid k9
    have B9 := Lib.hid (fb9 w.heap.size w (by omega) (HB.out.trans (B2.out.mono HB.out.size)))
    clear k9 fb9 fh9 fs9
    clear b2 l2
    go_wp2_with fail
    refine bodyPost_ret (v := .tuple #[.agg (stX sta00 sad0), .int .i64 2]) (rnext_ret _ _ _ (w.heap.size + 1 + 1) _ rfl rfl K9.out (stX_size ..)) rfl ?_
    exact ⟨sad0, rfl, sta00_R _ _, B9.out, fun _ _ _ _ _ _ _ => ⟨fun h => absurd h (Nat.lt_irrefl 0), fun h => absurd h (Nat.lt_irrefl 0)⟩⟩
set_option maxRecDepth 100000 in
set_option maxHeartbeats 8000000 in
theorem rNext_0f (s : Sta) (a : Sad) (m : Mt) (A1 D1 : Option Addr) (c1 e1 : Nat) (w : World) (h : StR w w.heap.size s a) (h1 : CoR w w.heap.size m.c A1 D1) (hb : StB s) (h8 : -128 ≤ m.c.st) (h9 : m.c.st ≤ 127) (hms : mayS s = true) (hmm : mayM m = true) (hk : m.kd = 0) (h8' : s.made = 8) :
    Calls Tryz.prog 37 #[.agg (stX s a), .agg (mtX m A1 D1 c1 e1)] w (NxD s a m A1 D1 (nextS s m) (nextE s m) w) := by
  obtain ⟨W0, hW0⟩ : ∃ W0, W0 = ((w.alloc (.cells (stX s a) 34)).alloc (.cells (mtX m A1 D1 c1 e1) 42)).alloc (.cells #[.int .i64 0, .int .i8 0, .int .i64 0, .int .i64 0, .int .i64 0, .int .i64 0, .slice none 0 0, .slice none 0 0, .int .i64 0, .int .i8 0, .int .i64 0, .int .i64 0, .int .i64 0, .int .i64 0, .slice none 0 0, .slice none 0 0, .int .i64 0, .int .i8 0, .int .i64 0, .int .i64 0, .int .i64 0, .int .i64 0, .slice none 0 0, .slice none 0 0, .int .i64 0, .int .i64 0, .int .i64 0, .int .i64 0, .int .i64 0, .int .i64 0, .int .i64 0] 34) := ⟨_, rfl⟩
  have s0 : W0.heap.size = w.heap.size + 1 + 1 + 1 := by rw [hW0]; simp
  have B0 : Below w.heap.size w W0 := by rw [hW0]; exact bal (bal (bal (Below.refl _ _) _) _) _
  have K1 : Blk W0 w.heap.size 34 (stX s a) := by rw [hW0]; exact ((Blk.new w 34 (stX s a)).alloc _).alloc _
  have K2 : Blk W0 (w.heap.size + 1) 42 (mtX m A1 D1 c1 e1) := by rw [hW0]; exact (bk_new _ 42 _ (by simp)).alloc _
  have K3 : Blk W0 (w.heap.size + 1 + 1) 34 #[.int .i64 0, .int .i8 0, .int .i64 0, .int .i64 0, .int .i64 0, .int .i64 0, .slice none 0 0, .slice none 0 0, .int .i64 0, .int .i8 0, .int .i64 0, .int .i64 0, .int .i64 0, .int .i64 0, .slice none 0 0, .slice none 0 0, .int .i64 0, .int .i8 0, .int .i64 0, .int .i64 0, .int .i64 0, .int .i64 0, .slice none 0 0, .slice none 0 0, .int .i64 0, .int .i64 0, .int .i64 0, .int .i64 0, .int .i64 0, .int .i64 0, .int .i64 0] := by rw [hW0]; exact bk_new _ 34 _ (by simp)
  have HW := Lib.hid hW0
  have HS := Lib.hid s0
  have HB := Lib.hid B0
  have HK1 := Lib.hid K1
  have HK2 := Lib.hid K2
  have HK3 := Lib.hid K3
  have H := Lib.hid h
  have H1 := Lib.hid h1
  have HP0 := Lib.hid (PF.own (b := w.heap.size) h h1 (by omega) (by omega))
  have HP2 := Lib.hid (PF.own (b := w.heap.size + 1 + 1) h h1 (by omega) (by omega))
  have HSB := Lib.hid hb
  have l1 := st_load K1
  have bd : ∀ W, (Instr.build 34 #[]).run Tryz.prog W = .ok (.agg (stX sta00 sad0)) W := fun W => run_build W 34 _ _ (by kernel_rfl)
  have MS := Lib.hid (rMayS_any s a w.heap.size W0 (h.below B0) B0.size hb)
  have MM := Lib.hid (fun W (hb : Below W0.heap.size W0 W) => rMayM_all m A1 D1 c1 e1 w.heap.size W (h1.below (B0.trans (hb.mono B0.size))) (Nat.le_trans B0.size hb.size) h8 h9)
  have cc0 : (m.kd == 0) = true := by rw [hk]; rfl
  have cc5 : (m.kd == 5) = false := by rw [hk]; rfl
  have cc7 : (m.kd == 7) = false := by rw [hk]; rfl
  have HE := Lib.hid (show nextE s m = 102 by rw [(next_0 hms hmm hk).1, if_pos h8'])
  have HT := Lib.hid (show nextS s m = sta00 by rw [(next_0 hms hmm hk).2, if_pos h8'])
  have d8 : (s.made == 8) = true := by rw [h8']; rfl
  rw [hms] at MS
  rw [hmm] at MM
  clear hW0 s0 B0 K1 K2 K3 h h1 hb h8 h9 hms hmm
  go_enter Tryz.func37, Tryz.ntmps37
  go_upto_region 1 with (fail)
  rw [← HW.out]
  go_wp2_with fail
  refine MS.out.mono ?_
  rintro e w1 ⟨rfl, b1⟩
  have l2 := mt_load (P := Tryz.prog) (HK2.out.below b1 HK2.out.lt)
  have B1 := Lib.hid b1
  clear b1 l1
  go_wp2_with fail
  refine (MM.out _ B1.out).mono ?_
  rintro e w2 ⟨rfl, b2⟩
  have B2 := Lib.hid (B1.out.trans (b2.mono B1.out.size))
  have KS := Lib.hid (HK1.out.below B2.out HK1.out.lt)
  have KE := Lib.hid (HK2.out.below B2.out HK2.out.lt)
  have KR := Lib.hid (HK3.out.below B2.out HK3.out.lt)
  have BS := Lib.hid (HB.out.trans (B2.out.mono HB.out.size))
  have OS := Lib.hid (StF.of (m := m) (A := A1) (D := D1) H.out BS.out BS.out.size)
  have Z2 := Lib.hid (show w.heap.size + 1 + 1 + 1 ≤ w2.heap.size by have := HS.out; have := B2.out.size; omega)
  have x0 := mt_cell KE.out (j := 0) rfl
  clear b2 l2
  clear hk h8'
  have xm := st_made KS.out
  obtain ⟨W9, st9, k9, fb9, fh9, fs9⟩ := bk_store (P := Tryz.prog) (ty := 34) (cs := stX sta00 sad0) 31 KR.out infoSta rfl (stX_size ..) (stX_one ..)
  have K9 := Lib.hid k9
  have B9 := Lib.hid (fb9 w.heap.size w (by omega) BS.out)
  clear k9 fb9 fh9 fs9
  go_wp2_with fail
  refine bodyPost_ret (v := .tuple #[.agg (stX sta00 sad0), .int .i64 102]) (rnext_ret _ _ _ (w.heap.size + 1 + 1) _ rfl rfl K9.out (stX_size ..)) rfl ?_
  rw [HT.out, HE.out]
  exact ⟨sad0, rfl, sta00_R _ _, B9.out, fun _ _ _ _ _ _ _ => ⟨fun h => absurd h (Nat.lt_irrefl 0), fun h => absurd h (Nat.lt_irrefl 0)⟩⟩
set_option maxRecDepth 100000 in
set_option maxHeartbeats 8000000 in
theorem rNext_0 (s : Sta) (a : Sad) (m : Mt) (A1 D1 : Option Addr) (c1 e1 : Nat) (w : World) (h : StR w w.heap.size s a) (h1 : CoR w w.heap.size m.c A1 D1) (hb : StB s) (h8 : -128 ≤ m.c.st) (h9 : m.c.st ≤ 127) (hms : mayS s = true) (hmm : mayM m = true) (hk : m.kd = 0) (h8' : ¬ s.made = 8) :
    Calls Tryz.prog 37 #[.agg (stX s a), .agg (mtX m A1 D1 c1 e1)] w (NxD s a m A1 D1 (nextS s m) (nextE s m) w) := by
  obtain ⟨W0, hW0⟩ : ∃ W0, W0 = ((w.alloc (.cells (stX s a) 34)).alloc (.cells (mtX m A1 D1 c1 e1) 42)).alloc (.cells #[.int .i64 0, .int .i8 0, .int .i64 0, .int .i64 0, .int .i64 0, .int .i64 0, .slice none 0 0, .slice none 0 0, .int .i64 0, .int .i8 0, .int .i64 0, .int .i64 0, .int .i64 0, .int .i64 0, .slice none 0 0, .slice none 0 0, .int .i64 0, .int .i8 0, .int .i64 0, .int .i64 0, .int .i64 0, .int .i64 0, .slice none 0 0, .slice none 0 0, .int .i64 0, .int .i64 0, .int .i64 0, .int .i64 0, .int .i64 0, .int .i64 0, .int .i64 0] 34) := ⟨_, rfl⟩
  have s0 : W0.heap.size = w.heap.size + 1 + 1 + 1 := by rw [hW0]; simp
  have B0 : Below w.heap.size w W0 := by rw [hW0]; exact bal (bal (bal (Below.refl _ _) _) _) _
  have K1 : Blk W0 w.heap.size 34 (stX s a) := by rw [hW0]; exact ((Blk.new w 34 (stX s a)).alloc _).alloc _
  have K2 : Blk W0 (w.heap.size + 1) 42 (mtX m A1 D1 c1 e1) := by rw [hW0]; exact (bk_new _ 42 _ (by simp)).alloc _
  have K3 : Blk W0 (w.heap.size + 1 + 1) 34 #[.int .i64 0, .int .i8 0, .int .i64 0, .int .i64 0, .int .i64 0, .int .i64 0, .slice none 0 0, .slice none 0 0, .int .i64 0, .int .i8 0, .int .i64 0, .int .i64 0, .int .i64 0, .int .i64 0, .slice none 0 0, .slice none 0 0, .int .i64 0, .int .i8 0, .int .i64 0, .int .i64 0, .int .i64 0, .int .i64 0, .slice none 0 0, .slice none 0 0, .int .i64 0, .int .i64 0, .int .i64 0, .int .i64 0, .int .i64 0, .int .i64 0, .int .i64 0] := by rw [hW0]; exact bk_new _ 34 _ (by simp)
  have HW := Lib.hid hW0
  have HS := Lib.hid s0
  have HB := Lib.hid B0
  have HK1 := Lib.hid K1
  have HK2 := Lib.hid K2
  have HK3 := Lib.hid K3
  have H := Lib.hid h
  have H1 := Lib.hid h1
  have HP0 := Lib.hid (PF.own (b := w.heap.size) h h1 (by omega) (by omega))
  have HP2 := Lib.hid (PF.own (b := w.heap.size + 1 + 1) h h1 (by omega) (by omega))
  have HSB := Lib.hid hb
  have l1 := st_load K1
  have bd : ∀ W, (Instr.build 34 #[]).run Tryz.prog W = .ok (.agg (stX sta00 sad0)) W := fun W => run_build W 34 _ _ (by kernel_rfl)
  have MS := Lib.hid (rMayS_any s a w.heap.size W0 (h.below B0) B0.size hb)
  have MM := Lib.hid (fun W (hb : Below W0.heap.size W0 W) => rMayM_all m A1 D1 c1 e1 w.heap.size W (h1.below (B0.trans (hb.mono B0.size))) (Nat.le_trans B0.size hb.size) h8 h9)
  have cc0 : (m.kd == 0) = true := by rw [hk]; rfl
  have cc5 : (m.kd == 5) = false := by rw [hk]; rfl
  have cc7 : (m.kd == 7) = false := by rw [hk]; rfl
  have HE := Lib.hid (show nextE s m = 0 by rw [(next_0 hms hmm hk).1, if_neg h8'])
  have HT := Lib.hid (show nextS s m = { s with made := s.made + 1 } by rw [(next_0 hms hmm hk).2, if_neg h8'])
  have d8 : (s.made == 8) = false := by simpa using h8'
  have hmd := ((mayS_iff s).1 hms)
  have ew : IntKind.i64.wrap (s.made + 1) = s.made + 1 := IntWalk.i64_in _ (by omega)
  rw [hms] at MS
  rw [hmm] at MM
  clear hW0 s0 B0 K1 K2 K3 h h1 hb h8 h9 hms hmm
  go_enter Tryz.func37, Tryz.ntmps37
  go_upto_region 1 with (fail)
  rw [← HW.out]
  go_wp2_with fail
  refine MS.out.mono ?_
  rintro e w1 ⟨rfl, b1⟩
  have l2 := mt_load (P := Tryz.prog) (HK2.out.below b1 HK2.out.lt)
  have B1 := Lib.hid b1
  clear b1 l1
  go_wp2_with fail
  refine (MM.out _ B1.out).mono ?_
  rintro e w2 ⟨rfl, b2⟩
  have B2 := Lib.hid (B1.out.trans (b2.mono B1.out.size))
  have KS := Lib.hid (HK1.out.below B2.out HK1.out.lt)
  have KE := Lib.hid (HK2.out.below B2.out HK2.out.lt)
  have KR := Lib.hid (HK3.out.below B2.out HK3.out.lt)
  have BS := Lib.hid (HB.out.trans (B2.out.mono HB.out.size))
  have OS := Lib.hid (StF.of (m := m) (A := A1) (D := D1) H.out BS.out BS.out.size)
  have Z2 := Lib.hid (show w.heap.size + 1 + 1 + 1 ≤ w2.heap.size by have := HS.out; have := B2.out.size; omega)
  have x0 := mt_cell KE.out (j := 0) rfl
  clear b2 l2
  clear hk h8' hmd
  have xm := st_made KS.out
  obtain ⟨W3, st3, k3, fb3, fh3, fs3⟩ := st_mkmade KS.out (s.made + 1)
  have K3 := Lib.hid k3
  have KR3 := Lib.hid (KR.out.but (by omega) (But.one fh3 fs3))
  have KE3 := Lib.hid (KE.out.but (by omega) (But.one fh3 fs3))
  have BS3 := Lib.hid (fb3 w.heap.size w (Nat.le_refl _) BS.out)
  have OS3 := Lib.hid (show StF W3 (PF w.heap.size s a m A1 D1) { s with made := s.made + 1 } a from (OS.out.but (b := w.heap.size) HP0.out (But.one fh3 fs3)).gr (fun _ _ => rfl))
  clear k3 fb3 fh3 fs3
  have lo := st_load K3.out
  obtain ⟨W9, st9, k9, fb9, fh9, fs9⟩ := bk_store (P := Tryz.prog) (ty := 34) (cs := stX { s with made := s.made + 1 } a) 31 KR3.out infoSta rfl (stX_size ..) (stX_one ..)
  have K9 := Lib.hid k9
  have B9 := Lib.hid (fb9 w.heap.size w (by omega) BS3.out)
  have O9 := Lib.hid (StF.but OS3.out (b := w.heap.size + 1 + 1) HP2.out (But.one fh9 fs9))
  clear k9 fb9 fh9 fs9
  go_wp2_with fail
  refine bodyPost_ret (v := .tuple #[.agg (stX { s with made := s.made + 1 } a), .int .i64 0]) (rnext_ret _ _ _ (w.heap.size + 1 + 1) _ rfl rfl K9.out (stX_size ..)) rfl ?_
  rw [HT.out, HE.out]
  exact ⟨_, rfl, O9.out.r, B9.out, fun b hb h1 h2 h3 k hk => (O9.out k hk).2 b ⟨by omega, h1, h2, h3⟩⟩
set_option maxRecDepth 100000 in
set_option maxHeartbeats 8000000 in
theorem rNext_5 (s : Sta) (a : Sad) (m : Mt) (A1 D1 : Option Addr) (c1 e1 : Nat) (w : World) (h : StR w w.heap.size s a) (h1 : CoR w w.heap.size m.c A1 D1) (hb : StB s) (h8 : -128 ≤ m.c.st) (h9 : m.c.st ≤ 127) (hms : mayS s = true) (hmm : mayM m = true) (hk : m.kd = 5) :
    Calls Tryz.prog 37 #[.agg (stX s a), .agg (mtX m A1 D1 c1 e1)] w (NxD s a m A1 D1 (nextS s m) (nextE s m) w) := by
  obtain ⟨W0, hW0⟩ : ∃ W0, W0 = ((w.alloc (.cells (stX s a) 34)).alloc (.cells (mtX m A1 D1 c1 e1) 42)).alloc (.cells #[.int .i64 0, .int .i8 0, .int .i64 0, .int .i64 0, .int .i64 0, .int .i64 0, .slice none 0 0, .slice none 0 0, .int .i64 0, .int .i8 0, .int .i64 0, .int .i64 0, .int .i64 0, .int .i64 0, .slice none 0 0, .slice none 0 0, .int .i64 0, .int .i8 0, .int .i64 0, .int .i64 0, .int .i64 0, .int .i64 0, .slice none 0 0, .slice none 0 0, .int .i64 0, .int .i64 0, .int .i64 0, .int .i64 0, .int .i64 0, .int .i64 0, .int .i64 0] 34) := ⟨_, rfl⟩
  have s0 : W0.heap.size = w.heap.size + 1 + 1 + 1 := by rw [hW0]; simp
  have B0 : Below w.heap.size w W0 := by rw [hW0]; exact bal (bal (bal (Below.refl _ _) _) _) _
  have K1 : Blk W0 w.heap.size 34 (stX s a) := by rw [hW0]; exact ((Blk.new w 34 (stX s a)).alloc _).alloc _
  have K2 : Blk W0 (w.heap.size + 1) 42 (mtX m A1 D1 c1 e1) := by rw [hW0]; exact (bk_new _ 42 _ (by simp)).alloc _
  have K3 : Blk W0 (w.heap.size + 1 + 1) 34 #[.int .i64 0, .int .i8 0, .int .i64 0, .int .i64 0, .int .i64 0, .int .i64 0, .slice none 0 0, .slice none 0 0, .int .i64 0, .int .i8 0, .int .i64 0, .int .i64 0, .int .i64 0, .int .i64 0, .slice none 0 0, .slice none 0 0, .int .i64 0, .int .i8 0, .int .i64 0, .int .i64 0, .int .i64 0, .int .i64 0, .slice none 0 0, .slice none 0 0, .int .i64 0, .int .i64 0, .int .i64 0, .int .i64 0, .int .i64 0, .int .i64 0, .int .i64 0] := by rw [hW0]; exact bk_new _ 34 _ (by simp)
  have HW := Lib.hid hW0
  have HS := Lib.hid s0
  have HB := Lib.hid B0
  have HK1 := Lib.hid K1
  have HK2 := Lib.hid K2
  have HK3 := Lib.hid K3
  have H := Lib.hid h
  have H1 := Lib.hid h1
  have HP0 := Lib.hid (PF.own (b := w.heap.size) h h1 (by omega) (by omega))
  have HP2 := Lib.hid (PF.own (b := w.heap.size + 1 + 1) h h1 (by omega) (by omega))
  have HSB := Lib.hid hb
  have l1 := st_load K1
  have bd : ∀ W, (Instr.build 34 #[]).run Tryz.prog W = .ok (.agg (stX sta00 sad0)) W := fun W => run_build W 34 _ _ (by kernel_rfl)
  have MS := Lib.hid (rMayS_any s a w.heap.size W0 (h.below B0) B0.size hb)
  have MM := Lib.hid (fun W (hb : Below W0.heap.size W0 W) => rMayM_all m A1 D1 c1 e1 w.heap.size W (h1.below (B0.trans (hb.mono B0.size))) (Nat.le_trans B0.size hb.size) h8 h9)
  have cc0 : (m.kd == 0) = false := by rw [hk]; rfl
  have cc5 : (m.kd == 5) = true := by rw [hk]; rfl
  have cc7 : (m.kd == 7) = false := by rw [hk]; rfl
  have HE := Lib.hid (next_5 hms hmm hk).1
  have HT := Lib.hid (next_5 hms hmm hk).2
  have hpb := fit25 hmm (.inr hk)
  unfold pendB partB at hpb
  simp only [Bool.and_eq_true, decide_eq_true_eq] at hpb
  obtain ⟨gn, hgn⟩ : ∃ gn : Nat, m.p.1 = (gn : Int) := ⟨m.p.1.toNat, by omega⟩
  obtain ⟨qn, hqn⟩ : ∃ qn : Nat, m.p.2.1 = (qn : Int) := ⟨m.p.2.1.toNat, by omega⟩
  have g1 : gn < 2 := by omega
  have q1 : qn < 3 := by omega
  have g2 : (0 : Int) ≤ (gn : Int) := by omega
  have g3 : (gn : Int) < 2 := by omega
  have q2 : (0 : Int) ≤ (qn : Int) := by omega
  have q3 : (qn : Int) < 3 := by omega
  rw [hms] at MS
  rw [hmm] at MM
  clear hW0 s0 B0 K1 K2 K3 h h1 hb h8 h9 hms hmm
  go_enter Tryz.func37, Tryz.ntmps37
  go_upto_region 1 with (fail)
  rw [← HW.out]
  go_wp2_with fail
  refine MS.out.mono ?_
  rintro e w1 ⟨rfl, b1⟩
  have l2 := mt_load (P := Tryz.prog) (HK2.out.below b1 HK2.out.lt)
  have B1 := Lib.hid b1
  clear b1 l1
  go_wp2_with fail
  refine (MM.out _ B1.out).mono ?_
  rintro e w2 ⟨rfl, b2⟩
  have B2 := Lib.hid (B1.out.trans (b2.mono B1.out.size))
  have KS := Lib.hid (HK1.out.below B2.out HK1.out.lt)
  have KE := Lib.hid (HK2.out.below B2.out HK2.out.lt)
  have KR := Lib.hid (HK3.out.below B2.out HK3.out.lt)
  have BS := Lib.hid (HB.out.trans (B2.out.mono HB.out.size))
  have OS := Lib.hid (StF.of (m := m) (A := A1) (D := D1) H.out BS.out BS.out.size)
  have Z2 := Lib.hid (show w.heap.size + 1 + 1 + 1 ≤ w2.heap.size by have := HS.out; have := B2.out.size; omega)
  have x0 := mt_cell KE.out (j := 0) rfl
  clear b2 l2
  obtain ⟨W3, st3, k3, fb3, fh3, fs3⟩ := st_mkgr KS.out.drew gn qn g1 q1 m.p hgn hqn
  have K3 := Lib.hid k3
  have bt : But w.heap.size w2 W3 := (But.drew _ w2).trans (But.one fh3 fs3)
  have KR3 := Lib.hid (KR.out.but (by omega) bt)
  have BS3 := Lib.hid (fb3 w.heap.size w (Nat.le_refl _) BS.out.drew)
  have OS3 := Lib.hid (show StF W3 (PF w.heap.size s a m A1 D1) (s.pend m.p) a from (OS.out.but (b := w.heap.size) HP0.out bt).gr (fun _ _ => rfl))
  have c0 : w2.drew.cell? ⟨w.heap.size + 1, 3, none⟩ = some (.int .i64 (gn : Int)) := by rw [← hgn]; exact mt_cell KE.out.drew (j := 3) rfl
  have c1' : w2.drew.cell? ⟨w.heap.size + 1, 4, none⟩ = some (.int .i64 (qn : Int)) := by rw [← hqn]; exact mt_cell KE.out.drew (j := 4) rfl
  have c2 := mt_cell KE.out.drew (j := 5) rfl
  clear k3 fb3 fh3 fs3 bt hpb hgn hqn hk
  have lo := st_load K3.out
  obtain ⟨W9, st9, k9, fb9, fh9, fs9⟩ := bk_store (P := Tryz.prog) (ty := 34) (cs := stX (s.pend m.p) a) 31 KR3.out infoSta rfl (stX_size ..) (stX_one ..)
  have K9 := Lib.hid k9
  have B9 := Lib.hid (fb9 w.heap.size w (by omega) BS3.out)
  have O9 := Lib.hid (StF.but OS3.out (b := w.heap.size + 1 + 1) HP2.out (But.one fh9 fs9))
  clear k9 fb9 fh9 fs9
  go_wp2_with fail
  refine wp_region_qtail 12 (by kernel_rfl) (by kernel_rfl) ?_
  simp only [List.take_succ_cons, List.take_zero, List.drop_succ_cons, List.drop_zero]
  repeat (go_big_quiet_step (fail))
  refine wpQuiet_nil ?_
  go_wp2_with fail
  refine bodyPost_ret (v := .tuple #[.agg (stX (s.pend m.p) a), .int .i64 0]) (rnext_ret _ _ _ (w.heap.size + 1 + 1) _ rfl rfl K9.out (stX_size ..)) rfl ?_
  rw [HT.out, HE.out]
  exact ⟨_, rfl, O9.out.r, B9.out, fun b hb h1 h2 h3 k hk => (O9.out k hk).2 b ⟨by omega, h1, h2, h3⟩⟩
set_option maxRecDepth 100000 in
set_option maxHeartbeats 8000000 in
theorem rNext_7 (s : Sta) (a : Sad) (m : Mt) (A1 D1 : Option Addr) (c1 e1 : Nat) (w : World) (h : StR w w.heap.size s a) (h1 : CoR w w.heap.size m.c A1 D1) (hb : StB s) (h8 : -128 ≤ m.c.st) (h9 : m.c.st ≤ 127) (hms : mayS s = true) (hmm : mayM m = true) (hk : m.kd = 7) :
    Calls Tryz.prog 37 #[.agg (stX s a), .agg (mtX m A1 D1 c1 e1)] w (NxD s a m A1 D1 (nextS s m) (nextE s m) w) := by
  obtain ⟨W0, hW0⟩ : ∃ W0, W0 = ((w.alloc (.cells (stX s a) 34)).alloc (.cells (mtX m A1 D1 c1 e1) 42)).alloc (.cells #[.int .i64 0, .int .i8 0, .int .i64 0, .int .i64 0, .int .i64 0, .int .i64 0, .slice none 0 0, .slice none 0 0, .int .i64 0, .int .i8 0, .int .i64 0, .int .i64 0, .int .i64 0, .int .i64 0, .slice none 0 0, .slice none 0 0, .int .i64 0, .int .i8 0, .int .i64 0, .int .i64 0, .int .i64 0, .int .i64 0, .slice none 0 0, .slice none 0 0, .int .i64 0, .int .i64 0, .int .i64 0, .int .i64 0, .int .i64 0, .int .i64 0, .int .i64 0] 34) := ⟨_, rfl⟩
  have s0 : W0.heap.size = w.heap.size + 1 + 1 + 1 := by rw [hW0]; simp
  have B0 : Below w.heap.size w W0 := by rw [hW0]; exact bal (bal (bal (Below.refl _ _) _) _) _
  have K1 : Blk W0 w.heap.size 34 (stX s a) := by rw [hW0]; exact ((Blk.new w 34 (stX s a)).alloc _).alloc _
  have K2 : Blk W0 (w.heap.size + 1) 42 (mtX m A1 D1 c1 e1) := by rw [hW0]; exact (bk_new _ 42 _ (by simp)).alloc _
  have K3 : Blk W0 (w.heap.size + 1 + 1) 34 #[.int .i64 0, .int .i8 0, .int .i64 0, .int .i64 0, .int .i64 0, .int .i64 0, .slice none 0 0, .slice none 0 0, .int .i64 0, .int .i8 0, .int .i64 0, .int .i64 0, .int .i64 0, .int .i64 0, .slice none 0 0, .slice none 0 0, .int .i64 0, .int .i8 0, .int .i64 0, .int .i64 0, .int .i64 0, .int .i64 0, .slice none 0 0, .slice none 0 0, .int .i64 0, .int .i64 0, .int .i64 0, .int .i64 0, .int .i64 0, .int .i64 0, .int .i64 0] := by rw [hW0]; exact bk_new _ 34 _ (by simp)
  have HW := Lib.hid hW0
  have HS := Lib.hid s0
  have HB := Lib.hid B0
  have HK1 := Lib.hid K1
  have HK2 := Lib.hid K2
  have HK3 := Lib.hid K3
  have H := Lib.hid h
  have H1 := Lib.hid h1
  have HP0 := Lib.hid (PF.own (b := w.heap.size) h h1 (by omega) (by omega))
  have HP2 := Lib.hid (PF.own (b := w.heap.size + 1 + 1) h h1 (by omega) (by omega))
  have HSB := Lib.hid hb
  have l1 := st_load K1
  have bd : ∀ W, (Instr.build 34 #[]).run Tryz.prog W = .ok (.agg (stX sta00 sad0)) W := fun W => run_build W 34 _ _ (by kernel_rfl)
  have MS := Lib.hid (rMayS_any s a w.heap.size W0 (h.below B0) B0.size hb)
  have MM := Lib.hid (fun W (hb : Below W0.heap.size W0 W) => rMayM_all m A1 D1 c1 e1 w.heap.size W (h1.below (B0.trans (hb.mono B0.size))) (Nat.le_trans B0.size hb.size) h8 h9)
  have cc0 : (m.kd == 0) = false := by rw [hk]; rfl
  have cc5 : (m.kd == 5) = false := by rw [hk]; rfl
  have cc7 : (m.kd == 7) = true := by rw [hk]; rfl
  have HNX := Lib.hid (show nextE s m = (if mayS { s with made := m.nx } = true then 0 else 2) ∧ nextS s m = if mayS { s with made := m.nx } = true then { s with made := m.nx } else sta00 from next_7 hms hmm hk)
  rw [hms] at MS
  rw [hmm] at MM
  clear hW0 s0 B0 K1 K2 K3 h h1 hb h8 h9 hms hmm
  go_enter Tryz.func37, Tryz.ntmps37
  go_upto_region 1 with (fail)
  rw [← HW.out]
  go_wp2_with fail
  refine MS.out.mono ?_
  rintro e w1 ⟨rfl, b1⟩
  have l2 := mt_load (P := Tryz.prog) (HK2.out.below b1 HK2.out.lt)
  have B1 := Lib.hid b1
  clear b1 l1
  go_wp2_with fail
  refine (MM.out _ B1.out).mono ?_
  rintro e w2 ⟨rfl, b2⟩
  have B2 := Lib.hid (B1.out.trans (b2.mono B1.out.size))
  have KS := Lib.hid (HK1.out.below B2.out HK1.out.lt)
  have KE := Lib.hid (HK2.out.below B2.out HK2.out.lt)
  have KR := Lib.hid (HK3.out.below B2.out HK3.out.lt)
  have BS := Lib.hid (HB.out.trans (B2.out.mono HB.out.size))
  have OS := Lib.hid (StF.of (m := m) (A := A1) (D := D1) H.out BS.out BS.out.size)
  have Z2 := Lib.hid (show w.heap.size + 1 + 1 + 1 ≤ w2.heap.size by have := HS.out; have := B2.out.size; omega)
  have x0 := mt_cell KE.out (j := 0) rfl
  clear b2 l2
  have xn := mt_cell KE.out (j := 16) rfl
  clear hk
  obtain ⟨W3, st3, k3, fb3, fh3, fs3⟩ := st_mkmade KS.out m.nx
  have K3 := Lib.hid k3
  have KR3 := Lib.hid (KR.out.but (by omega) (But.one fh3 fs3))
  have KE3 := Lib.hid (KE.out.but (by omega) (But.one fh3 fs3))
  have BS3 := Lib.hid (fb3 w.heap.size w (Nat.le_refl _) BS.out)
  have OS3 := Lib.hid (show StF W3 (PF w.heap.size s a m A1 D1) { s with made := m.nx } a from (OS.out.but (b := w.heap.size) HP0.out (But.one fh3 fs3)).gr (fun _ _ => rfl))
  clear k3 fb3 fh3 fs3
  have MY := Lib.hid (rMayS_any { s with made := m.nx } a W3.heap.size W3 OS3.out.r (Nat.le_refl _) (HSB.out.gr (fun _ _ => rfl)))
  have lz := st_load K3.out
  cases hmt : mayS { s with made := m.nx }
  · rw [hmt] at MY
    have HE := Lib.hid (show nextE s m = 2 by rw [HNX.out.1, hmt]; rfl)
    have HT := Lib.hid (show nextS s m = sta00 by rw [HNX.out.2, hmt]; rfl)
    clear hmt
    go_wp2_with fail
    refine MY.out.mono ?_
    rintro e w7 ⟨rfl, b7⟩
    clear lz
    obtain ⟨W9, st9, k9, fb9, fh9, fs9⟩ := bk_store (P := Tryz.prog) (ty := 34) (cs := stX sta00 sad0) 31 (KR3.out.below b7 KR3.out.lt) infoSta rfl (stX_size ..) (stX_one ..)
    have K9 := Lib.hid k9
    have B9 := Lib.hid (fb9 w.heap.size w (by omega) (BS3.out.trans (b7.mono BS3.out.size)))
    clear k9 fb9 fh9 fs9
    clear b7
    go_wp2_with fail
    refine bodyPost_ret (v := .tuple #[.agg (stX sta00 sad0), .int .i64 2]) (rnext_ret _ _ _ (w.heap.size + 1 + 1) _ rfl rfl K9.out (stX_size ..)) rfl ?_
    rw [HT.out, HE.out]
    exact ⟨sad0, rfl, sta00_R _ _, B9.out, fun _ _ _ _ _ _ _ => ⟨fun h => absurd h (Nat.lt_irrefl 0), fun h => absurd h (Nat.lt_irrefl 0)⟩⟩
  · rw [hmt] at MY
    have HE := Lib.hid (show nextE s m = 0 by rw [HNX.out.1, hmt]; rfl)
    have HT := Lib.hid (show nextS s m = { s with made := m.nx } by rw [HNX.out.2, hmt]; rfl)
    clear hmt
    go_wp2_with fail
    refine MY.out.mono ?_
    rintro e w7 ⟨rfl, b7⟩
    have KS7 := Lib.hid (K3.out.below b7 K3.out.lt)
    have KR7 := Lib.hid (KR3.out.below b7 KR3.out.lt)
    have BS7 := Lib.hid (BS3.out.trans (b7.mono BS3.out.size))
    have OS7 := Lib.hid (show StF w7 (PF w.heap.size s a m A1 D1) { s with made := m.nx } a from fun j hj => ⟨(OS3.out j hj).1.up b7, (OS3.out j hj).2⟩)
    clear lz b7
    have lo := st_load KS7.out
    obtain ⟨W9, st9, k9, fb9, fh9, fs9⟩ := bk_store (P := Tryz.prog) (ty := 34) (cs := stX { s with made := m.nx } a) 31 KR7.out infoSta rfl (stX_size ..) (stX_one ..)
    have K9 := Lib.hid k9
    have B9 := Lib.hid (fb9 w.heap.size w (by omega) BS7.out)
    have O9 := Lib.hid (StF.but OS7.out (b := w.heap.size + 1 + 1) HP2.out (But.one fh9 fs9))
    clear k9 fb9 fh9 fs9
    go_wp2_with fail
    refine bodyPost_ret (v := .tuple #[.agg (stX { s with made := m.nx } a), .int .i64 0]) (rnext_ret _ _ _ (w.heap.size + 1 + 1) _ rfl rfl K9.out (stX_size ..)) rfl ?_
    rw [HT.out, HE.out]
    exact ⟨_, rfl, O9.out.r, B9.out, fun b hb h1 h2 h3 k hk => (O9.out k hk).2 b ⟨by omega, h1, h2, h3⟩⟩
set_option maxRecDepth 100000 in
set_option maxHeartbeats 8000000 in
theorem rNext_ff (s : Sta) (a : Sad) (m : Mt) (A1 D1 : Option Addr) (c1 e1 : Nat) (w : World) (h : StR w w.heap.size s a) (h1 : CoR w w.heap.size m.c A1 D1) (hb : StB s) (h8 : -128 ≤ m.c.st) (h9 : m.c.st ≤ 127) (hms : mayS s = true) (hmm : mayM m = true) (t : Nat) (ht : t < 3) (htid : m.tid = (t : Int)) (hk : m.kd = 1) (h0 : (s.tid t).st = 0) (h8' : s.made = 8) :
    Calls Tryz.prog 37 #[.agg (stX s a), .agg (mtX m A1 D1 c1 e1)] w (NxD s a m A1 D1 (nextS s m) (nextE s m) w) := by
  obtain ⟨W0, hW0⟩ : ∃ W0, W0 = ((w.alloc (.cells (stX s a) 34)).alloc (.cells (mtX m A1 D1 c1 e1) 42)).alloc (.cells #[.int .i64 0, .int .i8 0, .int .i64 0, .int .i64 0, .int .i64 0, .int .i64 0, .slice none 0 0, .slice none 0 0, .int .i64 0, .int .i8 0, .int .i64 0, .int .i64 0, .int .i64 0, .int .i64 0, .slice none 0 0, .slice none 0 0, .int .i64 0, .int .i8 0, .int .i64 0, .int .i64 0, .int .i64 0, .int .i64 0, .slice none 0 0, .slice none 0 0, .int .i64 0, .int .i64 0, .int .i64 0, .int .i64 0, .int .i64 0, .int .i64 0, .int .i64 0] 34) := ⟨_, rfl⟩
  have s0 : W0.heap.size = w.heap.size + 1 + 1 + 1 := by rw [hW0]; simp
  have B0 : Below w.heap.size w W0 := by rw [hW0]; exact bal (bal (bal (Below.refl _ _) _) _) _
  have K1 : Blk W0 w.heap.size 34 (stX s a) := by rw [hW0]; exact ((Blk.new w 34 (stX s a)).alloc _).alloc _
  have K2 : Blk W0 (w.heap.size + 1) 42 (mtX m A1 D1 c1 e1) := by rw [hW0]; exact (bk_new _ 42 _ (by simp)).alloc _
  have K3 : Blk W0 (w.heap.size + 1 + 1) 34 #[.int .i64 0, .int .i8 0, .int .i64 0, .int .i64 0, .int .i64 0, .int .i64 0, .slice none 0 0, .slice none 0 0, .int .i64 0, .int .i8 0, .int .i64 0, .int .i64 0, .int .i64 0, .int .i64 0, .slice none 0 0, .slice none 0 0, .int .i64 0, .int .i8 0, .int .i64 0, .int .i64 0, .int .i64 0, .int .i64 0, .slice none 0 0, .slice none 0 0, .int .i64 0, .int .i64 0, .int .i64 0, .int .i64 0, .int .i64 0, .int .i64 0, .int .i64 0] := by rw [hW0]; exact bk_new _ 34 _ (by simp)
  have HW := Lib.hid hW0
  have HS := Lib.hid s0
  have HB := Lib.hid B0
  have HK1 := Lib.hid K1
  have HK2 := Lib.hid K2
  have HK3 := Lib.hid K3
  have H := Lib.hid h
  have H1 := Lib.hid h1
  have HP0 := Lib.hid (PF.own (b := w.heap.size) h h1 (by omega) (by omega))
  have HP2 := Lib.hid (PF.own (b := w.heap.size + 1 + 1) h h1 (by omega) (by omega))
  have HSB := Lib.hid hb
  have l1 := st_load K1
  have bd : ∀ W, (Instr.build 34 #[]).run Tryz.prog W = .ok (.agg (stX sta00 sad0)) W := fun W => run_build W 34 _ _ (by kernel_rfl)
  have MS := Lib.hid (rMayS_any s a w.heap.size W0 (h.below B0) B0.size hb)
  have MM := Lib.hid (fun W (hb : Below W0.heap.size W0 W) => rMayM_all m A1 D1 c1 e1 w.heap.size W (h1.below (B0.trans (hb.mono B0.size))) (Nat.le_trans B0.size hb.size) h8 h9)
  have cc0 : (m.kd == 0) = false := by rw [hk]; rfl
  have cc5 : (m.kd == 5) = false := by rw [hk]; rfl
  have cc7 : (m.kd == 7) = false := by rw [hk]; rfl
  have cc1 : (m.kd == 1) = true := by rw [hk]; rfl
  have htn : m.tid.toNat = t := by rw [htid]; rfl
  have hnf := next_f hms hmm hk (by rw [htn]; exact h0)
  rw [htn] at hnf
  have c0 : ((s.tid t).st == 0) = true := by rw [h0]; rfl
  have HE := Lib.hid (show nextE s m = 102 by rw [hnf.1, if_pos h8'])
  have HT := Lib.hid (show nextS s m = sta00 by rw [hnf.2, if_pos h8'])
  have d8 : (s.made == 8) = true := by rw [h8']; rfl
  clear hnf htn
  rw [hms] at MS
  rw [hmm] at MM
  clear hW0 s0 B0 K1 K2 K3 h h1 hb h8 h9 hms hmm
  go_enter Tryz.func37, Tryz.ntmps37
  go_upto_region 1 with (fail)
  rw [← HW.out]
  go_wp2_with fail
  refine MS.out.mono ?_
  rintro e w1 ⟨rfl, b1⟩
  have l2 := mt_load (P := Tryz.prog) (HK2.out.below b1 HK2.out.lt)
  have B1 := Lib.hid b1
  clear b1 l1
  go_wp2_with fail
  refine (MM.out _ B1.out).mono ?_
  rintro e w2 ⟨rfl, b2⟩
  have B2 := Lib.hid (B1.out.trans (b2.mono B1.out.size))
  have KS := Lib.hid (HK1.out.below B2.out HK1.out.lt)
  have KE := Lib.hid (HK2.out.below B2.out HK2.out.lt)
  have KR := Lib.hid (HK3.out.below B2.out HK3.out.lt)
  have BS := Lib.hid (HB.out.trans (B2.out.mono HB.out.size))
  have OS := Lib.hid (StF.of (m := m) (A := A1) (D := D1) H.out BS.out BS.out.size)
  have Z2 := Lib.hid (show w.heap.size + 1 + 1 + 1 ≤ w2.heap.size by have := HS.out; have := B2.out.size; omega)
  have x0 := mt_cell KE.out (j := 0) rfl
  clear b2 l2
  have HTI := Lib.hid htid
  have x1 : w2.cell? ⟨w.heap.size + 1, 1, none⟩ = some (.int .i64 (t : Int)) := by rw [← HTI.out]; exact mt_cell KE.out (j := 1) rfl
  have lt1 := st_tid KS.out t ht
  obtain ⟨W3, st3, k3, b3, s3⟩ := bk_fresh (P := Tryz.prog) w2 29 #[.int .i8 0, .int .i64 0, .int .i64 0, .int .i64 0, .int .i64 0, .slice none 0 0, .slice none 0 0, .int .i64 0] #[.int .i8 (s.tid t).st, .int .i64 (s.tid t).pid, .int .i64 (s.tid t).ep, .int .i64 (s.tid t).tm, .int .i64 (s.tid t).th, .slice (a.A t) (s.tid t).ps.length (a.c t), .slice (a.D t) (s.tid t).qs.length (a.e t), .int .i64 (s.tid t).ag] 8 infoCoS rfl rfl (by simp [Value.oneCell'])
  have KC := Lib.hid k3
  have KS3 := Lib.hid (KS.out.below b3 KS.out.lt)
  have KE3 := Lib.hid (KE.out.below b3 KE.out.lt)
  have KR3 := Lib.hid (KR.out.below b3 KR.out.lt)
  have BS3 := Lib.hid (BS.out.trans (b3.mono BS.out.size))
  have OS3 := Lib.hid (show StF W3 (PF w.heap.size s a m A1 D1) s a from fun j hj => ⟨(OS.out j hj).1.up b3, (OS.out j hj).2⟩)
  have Z3 := Lib.hid (show w2.heap.size < W3.heap.size by omega)
  have y0 := mt_cell KE3.out (j := 0) rfl
  have q0 := KC.out.cell 0
  have i1 : (0 : Int) ≤ (t : Int) := by omega
  have i2 : (t : Int) < 3 := by omega
  clear k3 b3 s3 htid
  have xm := st_made KS3.out
  clear hk h0 h8'
  obtain ⟨W9, st9, k9, fb9, fh9, fs9⟩ := bk_store (P := Tryz.prog) (ty := 34) (cs := stX sta00 sad0) 31 KR3.out infoSta rfl (stX_size ..) (stX_one ..)
  have K9 := Lib.hid k9
  have B9 := Lib.hid (fb9 w.heap.size w (by omega) BS3.out)
  clear k9 fb9 fh9 fs9
  go_wp2_with fail
  refine bodyPost_ret (v := .tuple #[.agg (stX sta00 sad0), .int .i64 102]) (rnext_ret _ _ _ (w.heap.size + 1 + 1) _ rfl rfl K9.out (stX_size ..)) rfl ?_
  rw [HT.out, HE.out]
  exact ⟨sad0, rfl, sta00_R _ _, B9.out, fun _ _ _ _ _ _ _ => ⟨fun h => absurd h (Nat.lt_irrefl 0), fun h => absurd h (Nat.lt_irrefl 0)⟩⟩
set_option maxRecDepth 100000 in
set_option maxHeartbeats 8000000 in
theorem rNext_f (s : Sta) (a : Sad) (m : Mt) (A1 D1 : Option Addr) (c1 e1 : Nat) (w : World) (h : StR w w.heap.size s a) (h1 : CoR w w.heap.size m.c A1 D1) (hb : StB s) (h8 : -128 ≤ m.c.st) (h9 : m.c.st ≤ 127) (hms : mayS s = true) (hmm : mayM m = true) (t : Nat) (ht : t < 3) (htid : m.tid = (t : Int)) (hk : m.kd = 1) (h0 : (s.tid t).st = 0) (h8' : ¬ s.made = 8) :
    Calls Tryz.prog 37 #[.agg (stX s a), .agg (mtX m A1 D1 c1 e1)] w (NxD s a m A1 D1 (nextS s m) (nextE s m) w) := by
  obtain ⟨W0, hW0⟩ : ∃ W0, W0 = ((w.alloc (.cells (stX s a) 34)).alloc (.cells (mtX m A1 D1 c1 e1) 42)).alloc (.cells #[.int .i64 0, .int .i8 0, .int .i64 0, .int .i64 0, .int .i64 0, .int .i64 0, .slice none 0 0, .slice none 0 0, .int .i64 0, .int .i8 0, .int .i64 0, .int .i64 0, .int .i64 0, .int .i64 0, .slice none 0 0, .slice none 0 0, .int .i64 0, .int .i8 0, .int .i64 0, .int .i64 0, .int .i64 0, .int .i64 0, .slice none 0 0, .slice none 0 0, .int .i64 0, .int .i64 0, .int .i64 0, .int .i64 0, .int .i64 0, .int .i64 0, .int .i64 0] 34) := ⟨_, rfl⟩
  have s0 : W0.heap.size = w.heap.size + 1 + 1 + 1 := by rw [hW0]; simp
  have B0 : Below w.heap.size w W0 := by rw [hW0]; exact bal (bal (bal (Below.refl _ _) _) _) _
  have K1 : Blk W0 w.heap.size 34 (stX s a) := by rw [hW0]; exact ((Blk.new w 34 (stX s a)).alloc _).alloc _
  have K2 : Blk W0 (w.heap.size + 1) 42 (mtX m A1 D1 c1 e1) := by rw [hW0]; exact (bk_new _ 42 _ (by simp)).alloc _
  have K3 : Blk W0 (w.heap.size + 1 + 1) 34 #[.int .i64 0, .int .i8 0, .int .i64 0, .int .i64 0, .int .i64 0, .int .i64 0, .slice none 0 0, .slice none 0 0, .int .i64 0, .int .i8 0, .int .i64 0, .int .i64 0, .int .i64 0, .int .i64 0, .slice none 0 0, .slice none 0 0, .int .i64 0, .int .i8 0, .int .i64 0, .int .i64 0, .int .i64 0, .int .i64 0, .slice none 0 0, .slice none 0 0, .int .i64 0, .int .i64 0, .int .i64 0, .int .i64 0, .int .i64 0, .int .i64 0, .int .i64 0] := by rw [hW0]; exact bk_new _ 34 _ (by simp)
  have HW := Lib.hid hW0
  have HS := Lib.hid s0
  have HB := Lib.hid B0
  have HK1 := Lib.hid K1
  have HK2 := Lib.hid K2
  have HK3 := Lib.hid K3
  have H := Lib.hid h
  have H1 := Lib.hid h1
  have HP0 := Lib.hid (PF.own (b := w.heap.size) h h1 (by omega) (by omega))
  have HP2 := Lib.hid (PF.own (b := w.heap.size + 1 + 1) h h1 (by omega) (by omega))
  have HSB := Lib.hid hb
  have l1 := st_load K1
  have bd : ∀ W, (Instr.build 34 #[]).run Tryz.prog W = .ok (.agg (stX sta00 sad0)) W := fun W => run_build W 34 _ _ (by kernel_rfl)
  have MS := Lib.hid (rMayS_any s a w.heap.size W0 (h.below B0) B0.size hb)
  have MM := Lib.hid (fun W (hb : Below W0.heap.size W0 W) => rMayM_all m A1 D1 c1 e1 w.heap.size W (h1.below (B0.trans (hb.mono B0.size))) (Nat.le_trans B0.size hb.size) h8 h9)
  have cc0 : (m.kd == 0) = false := by rw [hk]; rfl
  have cc5 : (m.kd == 5) = false := by rw [hk]; rfl
  have cc7 : (m.kd == 7) = false := by rw [hk]; rfl
  have cc1 : (m.kd == 1) = true := by rw [hk]; rfl
  have htn : m.tid.toNat = t := by rw [htid]; rfl
  have hnf := next_f hms hmm hk (by rw [htn]; exact h0)
  rw [htn] at hnf
  have c0 : ((s.tid t).st == 0) = true := by rw [h0]; rfl
  have hmd := ((mayS_iff s).1 hms)
  have ew : IntKind.i64.wrap (s.made + 1) = s.made + 1 := IntWalk.i64_in _ (by omega)
  have d8 : (s.made == 8) = false := by simpa using h8'
  obtain ⟨d, hd⟩ : ∃ d, initC (s.tid t) (s.made + 1) m.tm = d := ⟨_, rfl⟩
  have HE := Lib.hid (show nextE s m = 0 by rw [hnf.1, if_neg h8'])
  have HT := Lib.hid (show nextS s m = { s.put t d with made := s.made + 1 } by rw [hnf.2, if_neg h8', hd])
  have HD := Lib.hid hd
  clear hnf htn hd hmd
  rw [hms] at MS
  rw [hmm] at MM
  clear hW0 s0 B0 K1 K2 K3 h h1 hb h8 h9 hms hmm
  go_enter Tryz.func37, Tryz.ntmps37
  go_upto_region 1 with (fail)
  rw [← HW.out]
  go_wp2_with fail
  refine MS.out.mono ?_
  rintro e w1 ⟨rfl, b1⟩
  have l2 := mt_load (P := Tryz.prog) (HK2.out.below b1 HK2.out.lt)
  have B1 := Lib.hid b1
  clear b1 l1
  go_wp2_with fail
  refine (MM.out _ B1.out).mono ?_
  rintro e w2 ⟨rfl, b2⟩
  have B2 := Lib.hid (B1.out.trans (b2.mono B1.out.size))
  have KS := Lib.hid (HK1.out.below B2.out HK1.out.lt)
  have KE := Lib.hid (HK2.out.below B2.out HK2.out.lt)
  have KR := Lib.hid (HK3.out.below B2.out HK3.out.lt)
  have BS := Lib.hid (HB.out.trans (B2.out.mono HB.out.size))
  have OS := Lib.hid (StF.of (m := m) (A := A1) (D := D1) H.out BS.out BS.out.size)
  have Z2 := Lib.hid (show w.heap.size + 1 + 1 + 1 ≤ w2.heap.size by have := HS.out; have := B2.out.size; omega)
  have x0 := mt_cell KE.out (j := 0) rfl
  clear b2 l2
  have HTI := Lib.hid htid
  have x1 : w2.cell? ⟨w.heap.size + 1, 1, none⟩ = some (.int .i64 (t : Int)) := by rw [← HTI.out]; exact mt_cell KE.out (j := 1) rfl
  have lt1 := st_tid KS.out t ht
  obtain ⟨W3, st3, k3, b3, s3⟩ := bk_fresh (P := Tryz.prog) w2 29 #[.int .i8 0, .int .i64 0, .int .i64 0, .int .i64 0, .int .i64 0, .slice none 0 0, .slice none 0 0, .int .i64 0] #[.int .i8 (s.tid t).st, .int .i64 (s.tid t).pid, .int .i64 (s.tid t).ep, .int .i64 (s.tid t).tm, .int .i64 (s.tid t).th, .slice (a.A t) (s.tid t).ps.length (a.c t), .slice (a.D t) (s.tid t).qs.length (a.e t), .int .i64 (s.tid t).ag] 8 infoCoS rfl rfl (by simp [Value.oneCell'])
  have KC := Lib.hid k3
  have KS3 := Lib.hid (KS.out.below b3 KS.out.lt)
  have KE3 := Lib.hid (KE.out.below b3 KE.out.lt)
  have KR3 := Lib.hid (KR.out.below b3 KR.out.lt)
  have BS3 := Lib.hid (BS.out.trans (b3.mono BS.out.size))
  have OS3 := Lib.hid (show StF W3 (PF w.heap.size s a m A1 D1) s a from fun j hj => ⟨(OS.out j hj).1.up b3, (OS.out j hj).2⟩)
  have Z3 := Lib.hid (show w2.heap.size < W3.heap.size by omega)
  have y0 := mt_cell KE3.out (j := 0) rfl
  have q0 := KC.out.cell 0
  have i1 : (0 : Int) ≤ (t : Int) := by omega
  have i2 : (t : Int) < 3 := by omega
  clear k3 b3 s3 htid
  have xm := st_made KS3.out
  have xt := mt_cell KE3.out (j := 2) rfl
  have lc := bk_load (P := Tryz.prog) 8 KC.out rfl
  have CA := Lib.hid (rInit_any (s.tid t) (a.A t) (a.D t) (a.c t) (a.e t) (s.made + 1) m.tm W3 (OS3.out t ht).1 (HSB.out t ht).1 (HSB.out t ht).2)
  rw [HD.out] at CA
  clear hk h0 h8'
  go_wp2_with fail
  refine CA.out.mono ?_
  rintro e w4 ⟨A5, D5, c5, e5, rfl, r5, b5, off5⟩
  obtain ⟨W5, st5, k5, fb5, fh5, fs5⟩ := bk_store (P := Tryz.prog) (ty := 29) (cs := #[.int .i8 d.st, .int .i64 d.pid, .int .i64 d.ep, .int .i64 d.tm, .int .i64 d.th, .slice A5 d.ps.length c5, .slice D5 d.qs.length e5, .int .i64 d.ag]) 8 (KC.out.below b5 KC.out.lt) infoCoS rfl rfl (by simp [Value.oneCell'])
  have HNO := Lib.hid (fun b (hp : PF w.heap.size s a m A1 D1 b) => off5 b (by have := Z2.out; have := Z3.out; have := hp.1; omega) ((OS3.out t ht).2 b hp).1 ((OS3.out t ht).2 b hp).2)
  have hnc := off5 w2.heap.size Z3.out ((OS.out t ht).1.1.offB (Nat.le_refl _)) ((OS.out t ht).1.2.1.offB (Nat.le_refl _))
  have KE5 := Lib.hid ((KE3.out.below b5 KE3.out.lt).but (by have := Z2.out; omega) (But.one fh5 fs5))
  have KR5 := Lib.hid ((KR3.out.below b5 KR3.out.lt).but (by have := Z2.out; omega) (But.one fh5 fs5))
  have KS5 := Lib.hid ((KS3.out.below b5 KS3.out.lt).but (by have := Z2.out; omega) (But.one fh5 fs5))
  have BS5 := Lib.hid (fb5 w.heap.size w (by have := Z2.out; omega) (BS3.out.trans (b5.mono BS3.out.size)))
  have R5 := Lib.hid (show CoR W5 W5.heap.size d A5 D5 from r5.keepB hnc.1 hnc.2 (But.one fh5 fs5).keep (But.one fh5 fs5).size)
  have x5 : W5.cell? ⟨w.heap.size + 1, 1, none⟩ = some (.int .i64 (t : Int)) := by rw [← HTI.out]; exact mt_cell KE5.out (j := 1) rfl
  have lc5 := bk_load (P := Tryz.prog) 8 k5 rfl
  obtain ⟨W6, st6, k6, fb6, fh6, fs6⟩ := st_mkput KS5.out t ht d A5 D5 c5 e5
  have K6 := Lib.hid k6
  have bs6 := fb6 w.heap.size w (Nat.le_refl _) BS5.out
  have OS6 := Lib.hid (show StF W6 (PF w.heap.size s a m A1 D1) (s.put t d) (a.put t A5 D5 c5 e5) from (StF.of H.out bs6 bs6.size).put (R5.out.keepB (HNO.out _ HP0.out).1 (HNO.out _ HP0.out).2 (But.one fh6 fs6).keep (But.one fh6 fs6).size) HNO.out)
  have BS6 := Lib.hid bs6
  have KR6 := Lib.hid (KR5.out.but (by omega) (But.one fh6 fs6))
  have y6 : W6.cell? ⟨w.heap.size, 0, none⟩ = some (.int .i64 s.made) := k6.cell 0
  obtain ⟨W7, st7, k7, fb7, fh7, fs7⟩ := st_mkmade k6 (s.made + 1)
  have K7 := Lib.hid k7
  have BS7 := Lib.hid (fb7 w.heap.size w (Nat.le_refl _) BS6.out)
  have KR7 := Lib.hid (KR6.out.but (by omega) (But.one fh7 fs7))
  have OS7 := Lib.hid (show StF W7 (PF w.heap.size s a m A1 D1) { s.put t d with made := s.made + 1 } (a.put t A5 D5 c5 e5) from (OS6.out.but (b := w.heap.size) HP0.out (But.one fh7 fs7)).gr (fun _ _ => rfl))
  clear k5 fb5 fh5 fs5 k6 fb6 fh6 fs6 k7 fb7 fh7 fs7 bs6 r5 b5 off5 hnc lc xm xt x1 lt1 y0 q0 x0 st3
  have lo := st_load K7.out
  obtain ⟨W9, st9, k9, fb9, fh9, fs9⟩ := bk_store (P := Tryz.prog) (ty := 34) (cs := stX { s.put t d with made := s.made + 1 } (a.put t A5 D5 c5 e5)) 31 KR7.out infoSta rfl (stX_size ..) (stX_one ..)
  have K9 := Lib.hid k9
  have B9 := Lib.hid (fb9 w.heap.size w (by omega) BS7.out)
  have O9 := Lib.hid (StF.but OS7.out (b := w.heap.size + 1 + 1) HP2.out (But.one fh9 fs9))
  clear k9 fb9 fh9 fs9
  go_wp2_with fail
  refine bodyPost_ret (v := .tuple #[.agg (stX { s.put t d with made := s.made + 1 } (a.put t A5 D5 c5 e5)), .int .i64 0]) (rnext_ret _ _ _ (w.heap.size + 1 + 1) _ rfl rfl K9.out (stX_size ..)) rfl ?_
  rw [HT.out, HE.out]
  exact ⟨_, rfl, O9.out.r, B9.out, fun b hb h1 h2 h3 k hk => (O9.out k hk).2 b ⟨by omega, h1, h2, h3⟩⟩
set_option maxRecDepth 100000 in
set_option maxHeartbeats 8000000 in
theorem rNext_me1 (s : Sta) (a : Sad) (m : Mt) (A1 D1 : Option Addr) (c1 e1 : Nat) (w : World) (h : StR w w.heap.size s a) (h1 : CoR w w.heap.size m.c A1 D1) (hb : StB s) (h8 : -128 ≤ m.c.st) (h9 : m.c.st ≤ 127) (hms : mayS s = true) (hmm : mayM m = true) (t : Nat) (ht : t < 3) (htid : m.tid = (t : Int)) (hk : ¬ (m.kd = 0 ∨ m.kd = 5 ∨ m.kd = 7)) (hE : ¬ moveE (s.tid t) m s.made = 0) (hfr : ¬ (m.kd = 1 ∧ (s.tid t).st = 0)) (k1 : m.kd = 1) :
    Calls Tryz.prog 37 #[.agg (stX s a), .agg (mtX m A1 D1 c1 e1)] w (NxD s a m A1 D1 (nextS s m) (nextE s m) w) := by
  obtain ⟨W0, hW0⟩ : ∃ W0, W0 = ((w.alloc (.cells (stX s a) 34)).alloc (.cells (mtX m A1 D1 c1 e1) 42)).alloc (.cells #[.int .i64 0, .int .i8 0, .int .i64 0, .int .i64 0, .int .i64 0, .int .i64 0, .slice none 0 0, .slice none 0 0, .int .i64 0, .int .i8 0, .int .i64 0, .int .i64 0, .int .i64 0, .int .i64 0, .slice none 0 0, .slice none 0 0, .int .i64 0, .int .i8 0, .int .i64 0, .int .i64 0, .int .i64 0, .int .i64 0, .slice none 0 0, .slice none 0 0, .int .i64 0, .int .i64 0, .int .i64 0, .int .i64 0, .int .i64 0, .int .i64 0, .int .i64 0] 34) := ⟨_, rfl⟩
  have s0 : W0.heap.size = w.heap.size + 1 + 1 + 1 := by rw [hW0]; simp
  have B0 : Below w.heap.size w W0 := by rw [hW0]; exact bal (bal (bal (Below.refl _ _) _) _) _
  have K1 : Blk W0 w.heap.size 34 (stX s a) := by rw [hW0]; exact ((Blk.new w 34 (stX s a)).alloc _).alloc _
  have K2 : Blk W0 (w.heap.size + 1) 42 (mtX m A1 D1 c1 e1) := by rw [hW0]; exact (bk_new _ 42 _ (by simp)).alloc _
  have K3 : Blk W0 (w.heap.size + 1 + 1) 34 #[.int .i64 0, .int .i8 0, .int .i64 0, .int .i64 0, .int .i64 0, .int .i64 0, .slice none 0 0, .slice none 0 0, .int .i64 0, .int .i8 0, .int .i64 0, .int .i64 0, .int .i64 0, .int .i64 0, .slice none 0 0, .slice none 0 0, .int .i64 0, .int .i8 0, .int .i64 0, .int .i64 0, .int .i64 0, .int .i64 0, .slice none 0 0, .slice none 0 0, .int .i64 0, .int .i64 0, .int .i64 0, .int .i64 0, .int .i64 0, .int .i64 0, .int .i64 0] := by rw [hW0]; exact bk_new _ 34 _ (by simp)
  have HW := Lib.hid hW0
  have HS := Lib.hid s0
  have HB := Lib.hid B0
  have HK1 := Lib.hid K1
  have HK2 := Lib.hid K2
  have HK3 := Lib.hid K3
  have H := Lib.hid h
  have H1 := Lib.hid h1
  have HP0 := Lib.hid (PF.own (b := w.heap.size) h h1 (by omega) (by omega))
  have HP2 := Lib.hid (PF.own (b := w.heap.size + 1 + 1) h h1 (by omega) (by omega))
  have HSB := Lib.hid hb
  have l1 := st_load K1
  have bd : ∀ W, (Instr.build 34 #[]).run Tryz.prog W = .ok (.agg (stX sta00 sad0)) W := fun W => run_build W 34 _ _ (by kernel_rfl)
  have MS := Lib.hid (rMayS_any s a w.heap.size W0 (h.below B0) B0.size hb)
  have MM := Lib.hid (fun W (hb : Below W0.heap.size W0 W) => rMayM_all m A1 D1 c1 e1 w.heap.size W (h1.below (B0.trans (hb.mono B0.size))) (Nat.le_trans B0.size hb.size) h8 h9)
  have htn : m.tid.toNat = t := by rw [htid]; rfl
  have k0 : (m.kd == 0) = false := by simp; omega
  have k5 : (m.kd == 5) = false := by simp; omega
  have k7 : (m.kd == 7) = false := by simp; omega
  have hmd := ((mayS_iff s).1 hms)
  have HMD := Lib.hid (And.intro hmd.1 hmd.2.1)
  obtain ⟨n, hn⟩ : ∃ n, moveE (s.tid t) m s.made = n := ⟨_, rfl⟩
  obtain ⟨d, hd⟩ : ∃ d, moveC (s.tid t) m s.made = d := ⟨_, rfl⟩
  have hnm := next_m hms hmm hk (by rw [htn]; exact hfr)
  rw [htn, hn, hd] at hnm
  rw [hn] at hE
  have HDM := Lib.hid (show n = 0 → mayB d = true from fun h => by rw [← hd]; exact moveC_may ((okT_iff s t).1 (hmd.2.2.1 t ht)).1 hmm hk (by rw [hn]; exact h))
  have HCA := Lib.hid (fun W (hc : CoR W W.heap.size (s.tid t) (a.A t) (a.D t)) (hmc : CoR W W.heap.size m.c A1 D1) => show Calls Tryz.prog 66 #[.agg #[.int .i8 (s.tid t).st, .int .i64 (s.tid t).pid, .int .i64 (s.tid t).ep, .int .i64 (s.tid t).tm, .int .i64 (s.tid t).th, .slice (a.A t) (s.tid t).ps.length (a.c t), .slice (a.D t) (s.tid t).qs.length (a.e t), .int .i64 (s.tid t).ag], .agg (mtX m A1 D1 c1 e1), .int .i64 s.made] W (RmP (s.tid t) (a.A t) (a.D t) m A1 D1 d n W) by
    rw [← hd, ← hn]
    exact rmove_any (s.tid t) (a.A t) (a.D t) (a.c t) (a.e t) m A1 D1 c1 e1 s.made W hc hmc (hb t ht).1 (hb t ht).2 hmd.1 hmd.2.1)
  have fe1 : (m.kd == 1) = true := by rw [k1]; rfl
  have fe0 : ((s.tid t).st == 0) = false := by simpa using (fun h => hfr ⟨k1, h⟩)
  have dn : (n == 0) = false := eqb_false hE
  have dn2 : (n != 0) = true := by simp [hE]
  have HE := Lib.hid (show nextE s m = n by rw [hnm.1, if_pos hE])
  have HT := Lib.hid (show nextS s m = sta00 by unfold nextS; rw [HE.out, if_neg hE])
  clear hnm hE
  clear hfr k1
  rw [hms] at MS
  rw [hmm] at MM
  clear hW0 s0 B0 K1 K2 K3 h h1 hb h8 h9 hms hmm
  go_enter Tryz.func37, Tryz.ntmps37
  go_upto_region 1 with (fail)
  rw [← HW.out]
  go_wp2_with fail
  refine MS.out.mono ?_
  rintro e w1 ⟨rfl, b1⟩
  have l2 := mt_load (P := Tryz.prog) (HK2.out.below b1 HK2.out.lt)
  have B1 := Lib.hid b1
  clear b1 l1
  go_wp2_with fail
  refine (MM.out _ B1.out).mono ?_
  rintro e w2 ⟨rfl, b2⟩
  have B2 := Lib.hid (B1.out.trans (b2.mono B1.out.size))
  have KS := Lib.hid (HK1.out.below B2.out HK1.out.lt)
  have KE := Lib.hid (HK2.out.below B2.out HK2.out.lt)
  have KR := Lib.hid (HK3.out.below B2.out HK3.out.lt)
  have BS := Lib.hid (HB.out.trans (B2.out.mono HB.out.size))
  have OS := Lib.hid (StF.of (m := m) (A := A1) (D := D1) H.out BS.out BS.out.size)
  have Z2 := Lib.hid (show w.heap.size + 1 + 1 + 1 ≤ w2.heap.size by have := HS.out; have := B2.out.size; omega)
  have x0 := mt_cell KE.out (j := 0) rfl
  clear b2 l2
  have HTI := Lib.hid htid
  have x1 : w2.cell? ⟨w.heap.size + 1, 1, none⟩ = some (.int .i64 (t : Int)) := by rw [← HTI.out]; exact mt_cell KE.out (j := 1) rfl
  have lt1 := st_tid KS.out t ht
  obtain ⟨W3, st3, k3, b3, s3⟩ := bk_fresh (P := Tryz.prog) w2 29 #[.int .i8 0, .int .i64 0, .int .i64 0, .int .i64 0, .int .i64 0, .slice none 0 0, .slice none 0 0, .int .i64 0] #[.int .i8 (s.tid t).st, .int .i64 (s.tid t).pid, .int .i64 (s.tid t).ep, .int .i64 (s.tid t).tm, .int .i64 (s.tid t).th, .slice (a.A t) (s.tid t).ps.length (a.c t), .slice (a.D t) (s.tid t).qs.length (a.e t), .int .i64 (s.tid t).ag] 8 infoCoS rfl rfl (by simp [Value.oneCell'])
  have KC := Lib.hid k3
  have KS3 := Lib.hid (KS.out.below b3 KS.out.lt)
  have KE3 := Lib.hid (KE.out.below b3 KE.out.lt)
  have KR3 := Lib.hid (KR.out.below b3 KR.out.lt)
  have BS3 := Lib.hid (BS.out.trans (b3.mono BS.out.size))
  have OS3 := Lib.hid (show StF W3 (PF w.heap.size s a m A1 D1) s a from fun j hj => ⟨(OS.out j hj).1.up b3, (OS.out j hj).2⟩)
  have Z3 := Lib.hid (show w2.heap.size < W3.heap.size by omega)
  have y0 := mt_cell KE3.out (j := 0) rfl
  have q0 := KC.out.cell 0
  have i1 : (0 : Int) ≤ (t : Int) := by omega
  have i2 : (t : Int) < 3 := by omega
  clear k3 b3 s3 htid
  have xm := st_made KS3.out
  have le3 := mt_load (P := Tryz.prog) KE3.out
  have lc := bk_load (P := Tryz.prog) 8 KC.out rfl
  have CA := Lib.hid (HCA.out W3 (OS3.out t ht).1 (H1.out.up BS3.out))
  clear hk hn hd hmd htn
  go_wp2_with fail
  refine CA.out.mono ?_
  rintro e w4 ⟨A5, D5, c5, e5, rfl, r5, b5, off5⟩
  obtain ⟨W5, st5, k5, b6, s5⟩ := bk_fresh (P := Tryz.prog) w4 29 #[.int .i8 0, .int .i64 0, .int .i64 0, .int .i64 0, .int .i64 0, .slice none 0 0, .slice none 0 0, .int .i64 0] #[.int .i8 d.st, .int .i64 d.pid, .int .i64 d.ep, .int .i64 d.tm, .int .i64 d.th, .slice A5 d.ps.length c5, .slice D5 d.qs.length e5, .int .i64 d.ag] 8 infoCoS rfl rfl (by simp [Value.oneCell'])
  have HNO := Lib.hid (fun b (hp : PF w.heap.size s a m A1 D1 b) => off5 b (by have := Z2.out; have := Z3.out; have := hp.1; omega) ((OS3.out t ht).2 b hp).1 ((OS3.out t ht).2 b hp).2 hp.2.2.1 hp.2.2.2)
  have bb : Below W3.heap.size W3 W5 := b5.trans (b6.mono b5.size)
  have KC5 := Lib.hid (KC.out.below bb KC.out.lt)
  have KD5 := Lib.hid k5
  have KE5 := Lib.hid (KE3.out.below bb KE3.out.lt)
  have KR5 := Lib.hid (KR3.out.below bb KR3.out.lt)
  have KS5 := Lib.hid (KS3.out.below bb KS3.out.lt)
  have BS5 := Lib.hid (BS3.out.trans (bb.mono BS3.out.size))
  have R5 := Lib.hid (show CoR W5 W5.heap.size d A5 D5 from r5.up b6)
  have ZD := Lib.hid (show w2.heap.size < w4.heap.size ∧ w.heap.size + 3 ≤ w2.heap.size by have h1 := Z3.out; have h2 := b5.size; have h3 := Z2.out; omega)
  clear k5 b6 s5 r5 b5 off5 bb lc le3 xm x1 lt1 x0
  clear y0 q0
  obtain ⟨W9, st9, k9, fb9, fh9, fs9⟩ := bk_store (P := Tryz.prog) (ty := 34) (cs := stX sta00 sad0) 31 KR5.out infoSta rfl (stX_size ..) (stX_one ..)
  have K9 := Lib.hid k9
  have B9 := Lib.hid (fb9 w.heap.size w (by omega) BS5.out)
  clear k9 fb9 fh9 fs9
  go_wp2_with fail
  refine bodyPost_ret (v := .tuple #[.agg (stX sta00 sad0), .int .i64 n]) (rnext_ret _ _ _ (w.heap.size + 1 + 1) _ rfl rfl K9.out (stX_size ..)) rfl ?_
  rw [HT.out, HE.out]
  exact ⟨sad0, rfl, sta00_R _ _, B9.out, fun _ _ _ _ _ _ _ => ⟨fun h => absurd h (Nat.lt_irrefl 0), fun h => absurd h (Nat.lt_irrefl 0)⟩⟩
set_option maxRecDepth 100000 in
set_option maxHeartbeats 8000000 in
theorem rNext_me2 (s : Sta) (a : Sad) (m : Mt) (A1 D1 : Option Addr) (c1 e1 : Nat) (w : World) (h : StR w w.heap.size s a) (h1 : CoR w w.heap.size m.c A1 D1) (hb : StB s) (h8 : -128 ≤ m.c.st) (h9 : m.c.st ≤ 127) (hms : mayS s = true) (hmm : mayM m = true) (t : Nat) (ht : t < 3) (htid : m.tid = (t : Int)) (hk : ¬ (m.kd = 0 ∨ m.kd = 5 ∨ m.kd = 7)) (hE : ¬ moveE (s.tid t) m s.made = 0) (hfr : ¬ (m.kd = 1 ∧ (s.tid t).st = 0)) (k1 : ¬ m.kd = 1) :
    Calls Tryz.prog 37 #[.agg (stX s a), .agg (mtX m A1 D1 c1 e1)] w (NxD s a m A1 D1 (nextS s m) (nextE s m) w) := by
  obtain ⟨W0, hW0⟩ : ∃ W0, W0 = ((w.alloc (.cells (stX s a) 34)).alloc (.cells (mtX m A1 D1 c1 e1) 42)).alloc (.cells #[.int .i64 0, .int .i8 0, .int .i64 0, .int .i64 0, .int .i64 0, .int .i64 0, .slice none 0 0, .slice none 0 0, .int .i64 0, .int .i8 0, .int .i64 0, .int .i64 0, .int .i64 0, .int .i64 0, .slice none 0 0, .slice none 0 0, .int .i64 0, .int .i8 0, .int .i64 0, .int .i64 0, .int .i64 0, .int .i64 0, .slice none 0 0, .slice none 0 0, .int .i64 0, .int .i64 0, .int .i64 0, .int .i64 0, .int .i64 0, .int .i64 0, .int .i64 0] 34) := ⟨_, rfl⟩
  have s0 : W0.heap.size = w.heap.size + 1 + 1 + 1 := by rw [hW0]; simp
  have B0 : Below w.heap.size w W0 := by rw [hW0]; exact bal (bal (bal (Below.refl _ _) _) _) _
  have K1 : Blk W0 w.heap.size 34 (stX s a) := by rw [hW0]; exact ((Blk.new w 34 (stX s a)).alloc _).alloc _
  have K2 : Blk W0 (w.heap.size + 1) 42 (mtX m A1 D1 c1 e1) := by rw [hW0]; exact (bk_new _ 42 _ (by simp)).alloc _
  have K3 : Blk W0 (w.heap.size + 1 + 1) 34 #[.int .i64 0, .int .i8 0, .int .i64 0, .int .i64 0, .int .i64 0, .int .i64 0, .slice none 0 0, .slice none 0 0, .int .i64 0, .int .i8 0, .int .i64 0, .int .i64 0, .int .i64 0, .int .i64 0, .slice none 0 0, .slice none 0 0, .int .i64 0, .int .i8 0, .int .i64 0, .int .i64 0, .int .i64 0, .int .i64 0, .slice none 0 0, .slice none 0 0, .int .i64 0, .int .i64 0, .int .i64 0, .int .i64 0, .int .i64 0, .int .i64 0, .int .i64 0] := by rw [hW0]; exact bk_new _ 34 _ (by simp)
  have HW := Lib.hid hW0
  have HS := Lib.hid s0
  have HB := Lib.hid B0
  have HK1 := Lib.hid K1
  have HK2 := Lib.hid K2
  have HK3 := Lib.hid K3
  have H := Lib.hid h
  have H1 := Lib.hid h1
  have HP0 := Lib.hid (PF.own (b := w.heap.size) h h1 (by omega) (by omega))
  have HP2 := Lib.hid (PF.own (b := w.heap.size + 1 + 1) h h1 (by omega) (by omega))
  have HSB := Lib.hid hb
  have l1 := st_load K1
  have bd : ∀ W, (Instr.build 34 #[]).run Tryz.prog W = .ok (.agg (stX sta00 sad0)) W := fun W => run_build W 34 _ _ (by kernel_rfl)
  have MS := Lib.hid (rMayS_any s a w.heap.size W0 (h.below B0) B0.size hb)
  have MM := Lib.hid (fun W (hb : Below W0.heap.size W0 W) => rMayM_all m A1 D1 c1 e1 w.heap.size W (h1.below (B0.trans (hb.mono B0.size))) (Nat.le_trans B0.size hb.size) h8 h9)
  have htn : m.tid.toNat = t := by rw [htid]; rfl
  have k0 : (m.kd == 0) = false := by simp; omega
  have k5 : (m.kd == 5) = false := by simp; omega
  have k7 : (m.kd == 7) = false := by simp; omega
  have hmd := ((mayS_iff s).1 hms)
  have HMD := Lib.hid (And.intro hmd.1 hmd.2.1)
  obtain ⟨n, hn⟩ : ∃ n, moveE (s.tid t) m s.made = n := ⟨_, rfl⟩
  obtain ⟨d, hd⟩ : ∃ d, moveC (s.tid t) m s.made = d := ⟨_, rfl⟩
  have hnm := next_m hms hmm hk (by rw [htn]; exact hfr)
  rw [htn, hn, hd] at hnm
  rw [hn] at hE
  have HDM := Lib.hid (show n = 0 → mayB d = true from fun h => by rw [← hd]; exact moveC_may ((okT_iff s t).1 (hmd.2.2.1 t ht)).1 hmm hk (by rw [hn]; exact h))
  have HCA := Lib.hid (fun W (hc : CoR W W.heap.size (s.tid t) (a.A t) (a.D t)) (hmc : CoR W W.heap.size m.c A1 D1) => show Calls Tryz.prog 66 #[.agg #[.int .i8 (s.tid t).st, .int .i64 (s.tid t).pid, .int .i64 (s.tid t).ep, .int .i64 (s.tid t).tm, .int .i64 (s.tid t).th, .slice (a.A t) (s.tid t).ps.length (a.c t), .slice (a.D t) (s.tid t).qs.length (a.e t), .int .i64 (s.tid t).ag], .agg (mtX m A1 D1 c1 e1), .int .i64 s.made] W (RmP (s.tid t) (a.A t) (a.D t) m A1 D1 d n W) by
    rw [← hd, ← hn]
    exact rmove_any (s.tid t) (a.A t) (a.D t) (a.c t) (a.e t) m A1 D1 c1 e1 s.made W hc hmc (hb t ht).1 (hb t ht).2 hmd.1 hmd.2.1)
  have fe1 : (m.kd == 1) = false := by simpa using k1
  have dn : (n == 0) = false := eqb_false hE
  have dn2 : (n != 0) = true := by simp [hE]
  have HE := Lib.hid (show nextE s m = n by rw [hnm.1, if_pos hE])
  have HT := Lib.hid (show nextS s m = sta00 by unfold nextS; rw [HE.out, if_neg hE])
  clear hnm hE
  clear hfr k1
  rw [hms] at MS
  rw [hmm] at MM
  clear hW0 s0 B0 K1 K2 K3 h h1 hb h8 h9 hms hmm
  go_enter Tryz.func37, Tryz.ntmps37
  go_upto_region 1 with (fail)
  rw [← HW.out]
  go_wp2_with fail
  refine MS.out.mono ?_
  rintro e w1 ⟨rfl, b1⟩
  have l2 := mt_load (P := Tryz.prog) (HK2.out.below b1 HK2.out.lt)
  have B1 := Lib.hid b1
  clear b1 l1
  go_wp2_with fail
  refine (MM.out _ B1.out).mono ?_
  rintro e w2 ⟨rfl, b2⟩
  have B2 := Lib.hid (B1.out.trans (b2.mono B1.out.size))
  have KS := Lib.hid (HK1.out.below B2.out HK1.out.lt)
  have KE := Lib.hid (HK2.out.below B2.out HK2.out.lt)
  have KR := Lib.hid (HK3.out.below B2.out HK3.out.lt)
  have BS := Lib.hid (HB.out.trans (B2.out.mono HB.out.size))
  have OS := Lib.hid (StF.of (m := m) (A := A1) (D := D1) H.out BS.out BS.out.size)
  have Z2 := Lib.hid (show w.heap.size + 1 + 1 + 1 ≤ w2.heap.size by have := HS.out; have := B2.out.size; omega)
  have x0 := mt_cell KE.out (j := 0) rfl
  clear b2 l2
  have HTI := Lib.hid htid
  have x1 : w2.cell? ⟨w.heap.size + 1, 1, none⟩ = some (.int .i64 (t : Int)) := by rw [← HTI.out]; exact mt_cell KE.out (j := 1) rfl
  have lt1 := st_tid KS.out t ht
  obtain ⟨W3, st3, k3, b3, s3⟩ := bk_fresh (P := Tryz.prog) w2 29 #[.int .i8 0, .int .i64 0, .int .i64 0, .int .i64 0, .int .i64 0, .slice none 0 0, .slice none 0 0, .int .i64 0] #[.int .i8 (s.tid t).st, .int .i64 (s.tid t).pid, .int .i64 (s.tid t).ep, .int .i64 (s.tid t).tm, .int .i64 (s.tid t).th, .slice (a.A t) (s.tid t).ps.length (a.c t), .slice (a.D t) (s.tid t).qs.length (a.e t), .int .i64 (s.tid t).ag] 8 infoCoS rfl rfl (by simp [Value.oneCell'])
  have KC := Lib.hid k3
  have KS3 := Lib.hid (KS.out.below b3 KS.out.lt)
  have KE3 := Lib.hid (KE.out.below b3 KE.out.lt)
  have KR3 := Lib.hid (KR.out.below b3 KR.out.lt)
  have BS3 := Lib.hid (BS.out.trans (b3.mono BS.out.size))
  have OS3 := Lib.hid (show StF W3 (PF w.heap.size s a m A1 D1) s a from fun j hj => ⟨(OS.out j hj).1.up b3, (OS.out j hj).2⟩)
  have Z3 := Lib.hid (show w2.heap.size < W3.heap.size by omega)
  have y0 := mt_cell KE3.out (j := 0) rfl
  have q0 := KC.out.cell 0
  have i1 : (0 : Int) ≤ (t : Int) := by omega
  have i2 : (t : Int) < 3 := by omega
  clear k3 b3 s3 htid
  have xm := st_made KS3.out
  have le3 := mt_load (P := Tryz.prog) KE3.out
  have lc := bk_load (P := Tryz.prog) 8 KC.out rfl
  have CA := Lib.hid (HCA.out W3 (OS3.out t ht).1 (H1.out.up BS3.out))
  clear hk hn hd hmd htn
  go_wp2_with fail
  refine CA.out.mono ?_
  rintro e w4 ⟨A5, D5, c5, e5, rfl, r5, b5, off5⟩
  obtain ⟨W5, st5, k5, b6, s5⟩ := bk_fresh (P := Tryz.prog) w4 29 #[.int .i8 0, .int .i64 0, .int .i64 0, .int .i64 0, .int .i64 0, .slice none 0 0, .slice none 0 0, .int .i64 0] #[.int .i8 d.st, .int .i64 d.pid, .int .i64 d.ep, .int .i64 d.tm, .int .i64 d.th, .slice A5 d.ps.length c5, .slice D5 d.qs.length e5, .int .i64 d.ag] 8 infoCoS rfl rfl (by simp [Value.oneCell'])
  have HNO := Lib.hid (fun b (hp : PF w.heap.size s a m A1 D1 b) => off5 b (by have := Z2.out; have := Z3.out; have := hp.1; omega) ((OS3.out t ht).2 b hp).1 ((OS3.out t ht).2 b hp).2 hp.2.2.1 hp.2.2.2)
  have bb : Below W3.heap.size W3 W5 := b5.trans (b6.mono b5.size)
  have KC5 := Lib.hid (KC.out.below bb KC.out.lt)
  have KD5 := Lib.hid k5
  have KE5 := Lib.hid (KE3.out.below bb KE3.out.lt)
  have KR5 := Lib.hid (KR3.out.below bb KR3.out.lt)
  have KS5 := Lib.hid (KS3.out.below bb KS3.out.lt)
  have BS5 := Lib.hid (BS3.out.trans (bb.mono BS3.out.size))
  have R5 := Lib.hid (show CoR W5 W5.heap.size d A5 D5 from r5.up b6)
  have ZD := Lib.hid (show w2.heap.size < w4.heap.size ∧ w.heap.size + 3 ≤ w2.heap.size by have h1 := Z3.out; have h2 := b5.size; have h3 := Z2.out; omega)
  clear k5 b6 s5 r5 b5 off5 bb lc le3 xm x1 lt1 x0
  clear y0 q0
  obtain ⟨W9, st9, k9, fb9, fh9, fs9⟩ := bk_store (P := Tryz.prog) (ty := 34) (cs := stX sta00 sad0) 31 KR5.out infoSta rfl (stX_size ..) (stX_one ..)
  have K9 := Lib.hid k9
  have B9 := Lib.hid (fb9 w.heap.size w (by omega) BS5.out)
  clear k9 fb9 fh9 fs9
  go_wp2_with fail
  refine bodyPost_ret (v := .tuple #[.agg (stX sta00 sad0), .int .i64 n]) (rnext_ret _ _ _ (w.heap.size + 1 + 1) _ rfl rfl K9.out (stX_size ..)) rfl ?_
  rw [HT.out, HE.out]
  exact ⟨sad0, rfl, sta00_R _ _, B9.out, fun _ _ _ _ _ _ _ => ⟨fun h => absurd h (Nat.lt_irrefl 0), fun h => absurd h (Nat.lt_irrefl 0)⟩⟩
set_option maxRecDepth 100000 in
set_option maxHeartbeats 8000000 in
theorem rNext_mn1z (s : Sta) (a : Sad) (m : Mt) (A1 D1 : Option Addr) (c1 e1 : Nat) (w : World) (h : StR w w.heap.size s a) (h1 : CoR w w.heap.size m.c A1 D1) (hb : StB s) (h8 : -128 ≤ m.c.st) (h9 : m.c.st ≤ 127) (hms : mayS s = true) (hmm : mayM m = true) (t : Nat) (ht : t < 3) (htid : m.tid = (t : Int)) (hk : ¬ (m.kd = 0 ∨ m.kd = 5 ∨ m.kd = 7)) (hE : moveE (s.tid t) m s.made = 0) (hfr : ¬ (m.kd = 1 ∧ (s.tid t).st = 0)) (k1 : m.kd = 1) (hq : (s.tid t).qs.length = 0) :
    Calls Tryz.prog 37 #[.agg (stX s a), .agg (mtX m A1 D1 c1 e1)] w (NxD s a m A1 D1 (nextS s m) (nextE s m) w) := by
  obtain ⟨W0, hW0⟩ : ∃ W0, W0 = ((w.alloc (.cells (stX s a) 34)).alloc (.cells (mtX m A1 D1 c1 e1) 42)).alloc (.cells #[.int .i64 0, .int .i8 0, .int .i64 0, .int .i64 0, .int .i64 0, .int .i64 0, .slice none 0 0, .slice none 0 0, .int .i64 0, .int .i8 0, .int .i64 0, .int .i64 0, .int .i64 0, .int .i64 0, .slice none 0 0, .slice none 0 0, .int .i64 0, .int .i8 0, .int .i64 0, .int .i64 0, .int .i64 0, .int .i64 0, .slice none 0 0, .slice none 0 0, .int .i64 0, .int .i64 0, .int .i64 0, .int .i64 0, .int .i64 0, .int .i64 0, .int .i64 0] 34) := ⟨_, rfl⟩
  have s0 : W0.heap.size = w.heap.size + 1 + 1 + 1 := by rw [hW0]; simp
  have B0 : Below w.heap.size w W0 := by rw [hW0]; exact bal (bal (bal (Below.refl _ _) _) _) _
  have K1 : Blk W0 w.heap.size 34 (stX s a) := by rw [hW0]; exact ((Blk.new w 34 (stX s a)).alloc _).alloc _
  have K2 : Blk W0 (w.heap.size + 1) 42 (mtX m A1 D1 c1 e1) := by rw [hW0]; exact (bk_new _ 42 _ (by simp)).alloc _
  have K3 : Blk W0 (w.heap.size + 1 + 1) 34 #[.int .i64 0, .int .i8 0, .int .i64 0, .int .i64 0, .int .i64 0, .int .i64 0, .slice none 0 0, .slice none 0 0, .int .i64 0, .int .i8 0, .int .i64 0, .int .i64 0, .int .i64 0, .int .i64 0, .slice none 0 0, .slice none 0 0, .int .i64 0, .int .i8 0, .int .i64 0, .int .i64 0, .int .i64 0, .int .i64 0, .slice none 0 0, .slice none 0 0, .int .i64 0, .int .i64 0, .int .i64 0, .int .i64 0, .int .i64 0, .int .i64 0, .int .i64 0] := by rw [hW0]; exact bk_new _ 34 _ (by simp)
  have HW := Lib.hid hW0
  have HS := Lib.hid s0
  have HB := Lib.hid B0
  have HK1 := Lib.hid K1
  have HK2 := Lib.hid K2
  have HK3 := Lib.hid K3
  have H := Lib.hid h
  have H1 := Lib.hid h1
  have HP0 := Lib.hid (PF.own (b := w.heap.size) h h1 (by omega) (by omega))
  have HP2 := Lib.hid (PF.own (b := w.heap.size + 1 + 1) h h1 (by omega) (by omega))
  have HSB := Lib.hid hb
  have l1 := st_load K1
  have bd : ∀ W, (Instr.build 34 #[]).run Tryz.prog W = .ok (.agg (stX sta00 sad0)) W := fun W => run_build W 34 _ _ (by kernel_rfl)
  have MS := Lib.hid (rMayS_any s a w.heap.size W0 (h.below B0) B0.size hb)
  have MM := Lib.hid (fun W (hb : Below W0.heap.size W0 W) => rMayM_all m A1 D1 c1 e1 w.heap.size W (h1.below (B0.trans (hb.mono B0.size))) (Nat.le_trans B0.size hb.size) h8 h9)
  have htn : m.tid.toNat = t := by rw [htid]; rfl
  have k0 : (m.kd == 0) = false := by simp; omega
  have k5 : (m.kd == 5) = false := by simp; omega
  have k7 : (m.kd == 7) = false := by simp; omega
  have hmd := ((mayS_iff s).1 hms)
  have HMD := Lib.hid (And.intro hmd.1 hmd.2.1)
  obtain ⟨n, hn⟩ : ∃ n, moveE (s.tid t) m s.made = n := ⟨_, rfl⟩
  obtain ⟨d, hd⟩ : ∃ d, moveC (s.tid t) m s.made = d := ⟨_, rfl⟩
  have hnm := next_m hms hmm hk (by rw [htn]; exact hfr)
  rw [htn, hn, hd] at hnm
  rw [hn] at hE
  have HDM := Lib.hid (show n = 0 → mayB d = true from fun h => by rw [← hd]; exact moveC_may ((okT_iff s t).1 (hmd.2.2.1 t ht)).1 hmm hk (by rw [hn]; exact h))
  have HCA := Lib.hid (fun W (hc : CoR W W.heap.size (s.tid t) (a.A t) (a.D t)) (hmc : CoR W W.heap.size m.c A1 D1) => show Calls Tryz.prog 66 #[.agg #[.int .i8 (s.tid t).st, .int .i64 (s.tid t).pid, .int .i64 (s.tid t).ep, .int .i64 (s.tid t).tm, .int .i64 (s.tid t).th, .slice (a.A t) (s.tid t).ps.length (a.c t), .slice (a.D t) (s.tid t).qs.length (a.e t), .int .i64 (s.tid t).ag], .agg (mtX m A1 D1 c1 e1), .int .i64 s.made] W (RmP (s.tid t) (a.A t) (a.D t) m A1 D1 d n W) by
    rw [← hd, ← hn]
    exact rmove_any (s.tid t) (a.A t) (a.D t) (a.c t) (a.e t) m A1 D1 c1 e1 s.made W hc hmc (hb t ht).1 (hb t ht).2 hmd.1 hmd.2.1)
  have fe1 : (m.kd == 1) = true := by rw [k1]; rfl
  have fe0 : ((s.tid t).st == 0) = false := by simpa using (fun h => hfr ⟨k1, h⟩)
  have fe4 : (m.kd == 4) = false := by simp; omega
  have dq : decide ((0 : Int) < (((s.tid t).qs.length : Nat) : Int)) = false := decide_eq_false (by omega)
  have dqn : decide (0 < (s.tid t).qs.length) = false := decide_eq_false (by omega)
  have hcs : (if m.kd = 4 ∧ (s.tid t).st = 3 then (s.tid t).qs else []) = ([] : List Pd) := by
    by_cases h : m.kd = 4 ∧ (s.tid t).st = 3
    · rw [if_pos h]; exact absurd h.1 (by omega)
    · rw [if_neg h]
  rw [hcs] at hnm
  have HNX := Lib.hid (show nextE s m = (if mayS (s.put t d) = true then 0 else 2) ∧ nextS s m = if mayS (s.put t d) = true then s.put t d else sta00 by
    have hts : toS s m = s.put t d := hnm.2
    have hne : nextE s m = if mayS (s.put t d) = true then 0 else 2 := by rw [hnm.1, if_neg (by rw [hE]; simp), hts]
    refine ⟨hne, ?_⟩
    unfold nextS
    rw [hne, hts]
    by_cases h : mayS (s.put t d) = true
    · rw [if_pos h, if_pos h]; rfl
    · rw [if_neg h, if_neg h]; rfl)
  clear hnm hcs
  subst hE
  clear hfr hq k1
  rw [hms] at MS
  rw [hmm] at MM
  clear hW0 s0 B0 K1 K2 K3 h h1 hb h8 h9 hms hmm
  go_enter Tryz.func37, Tryz.ntmps37
  go_upto_region 1 with (fail)
  rw [← HW.out]
  go_wp2_with fail
  refine MS.out.mono ?_
  rintro e w1 ⟨rfl, b1⟩
  have l2 := mt_load (P := Tryz.prog) (HK2.out.below b1 HK2.out.lt)
  have B1 := Lib.hid b1
  clear b1 l1
  go_wp2_with fail
  refine (MM.out _ B1.out).mono ?_
  rintro e w2 ⟨rfl, b2⟩
  have B2 := Lib.hid (B1.out.trans (b2.mono B1.out.size))
  have KS := Lib.hid (HK1.out.below B2.out HK1.out.lt)
  have KE := Lib.hid (HK2.out.below B2.out HK2.out.lt)
  have KR := Lib.hid (HK3.out.below B2.out HK3.out.lt)
  have BS := Lib.hid (HB.out.trans (B2.out.mono HB.out.size))
  have OS := Lib.hid (StF.of (m := m) (A := A1) (D := D1) H.out BS.out BS.out.size)
  have Z2 := Lib.hid (show w.heap.size + 1 + 1 + 1 ≤ w2.heap.size by have := HS.out; have := B2.out.size; omega)
  have x0 := mt_cell KE.out (j := 0) rfl
  clear b2 l2
  have HTI := Lib.hid htid
  have x1 : w2.cell? ⟨w.heap.size + 1, 1, none⟩ = some (.int .i64 (t : Int)) := by rw [← HTI.out]; exact mt_cell KE.out (j := 1) rfl
  have lt1 := st_tid KS.out t ht
  obtain ⟨W3, st3, k3, b3, s3⟩ := bk_fresh (P := Tryz.prog) w2 29 #[.int .i8 0, .int .i64 0, .int .i64 0, .int .i64 0, .int .i64 0, .slice none 0 0, .slice none 0 0, .int .i64 0] #[.int .i8 (s.tid t).st, .int .i64 (s.tid t).pid, .int .i64 (s.tid t).ep, .int .i64 (s.tid t).tm, .int .i64 (s.tid t).th, .slice (a.A t) (s.tid t).ps.length (a.c t), .slice (a.D t) (s.tid t).qs.length (a.e t), .int .i64 (s.tid t).ag] 8 infoCoS rfl rfl (by simp [Value.oneCell'])
  have KC := Lib.hid k3
  have KS3 := Lib.hid (KS.out.below b3 KS.out.lt)
  have KE3 := Lib.hid (KE.out.below b3 KE.out.lt)
  have KR3 := Lib.hid (KR.out.below b3 KR.out.lt)
  have BS3 := Lib.hid (BS.out.trans (b3.mono BS.out.size))
  have OS3 := Lib.hid (show StF W3 (PF w.heap.size s a m A1 D1) s a from fun j hj => ⟨(OS.out j hj).1.up b3, (OS.out j hj).2⟩)
  have Z3 := Lib.hid (show w2.heap.size < W3.heap.size by omega)
  have y0 := mt_cell KE3.out (j := 0) rfl
  have q0 := KC.out.cell 0
  have i1 : (0 : Int) ≤ (t : Int) := by omega
  have i2 : (t : Int) < 3 := by omega
  clear k3 b3 s3 htid
  have xm := st_made KS3.out
  have le3 := mt_load (P := Tryz.prog) KE3.out
  have lc := bk_load (P := Tryz.prog) 8 KC.out rfl
  have CA := Lib.hid (HCA.out W3 (OS3.out t ht).1 (H1.out.up BS3.out))
  clear hk hn hd hmd htn
  go_wp2_with fail
  refine CA.out.mono ?_
  rintro e w4 ⟨A5, D5, c5, e5, rfl, r5, b5, off5⟩
  obtain ⟨W5, st5, k5, b6, s5⟩ := bk_fresh (P := Tryz.prog) w4 29 #[.int .i8 0, .int .i64 0, .int .i64 0, .int .i64 0, .int .i64 0, .slice none 0 0, .slice none 0 0, .int .i64 0] #[.int .i8 d.st, .int .i64 d.pid, .int .i64 d.ep, .int .i64 d.tm, .int .i64 d.th, .slice A5 d.ps.length c5, .slice D5 d.qs.length e5, .int .i64 d.ag] 8 infoCoS rfl rfl (by simp [Value.oneCell'])
  have HNO := Lib.hid (fun b (hp : PF w.heap.size s a m A1 D1 b) => off5 b (by have := Z2.out; have := Z3.out; have := hp.1; omega) ((OS3.out t ht).2 b hp).1 ((OS3.out t ht).2 b hp).2 hp.2.2.1 hp.2.2.2)
  have bb : Below W3.heap.size W3 W5 := b5.trans (b6.mono b5.size)
  have KC5 := Lib.hid (KC.out.below bb KC.out.lt)
  have KD5 := Lib.hid k5
  have KE5 := Lib.hid (KE3.out.below bb KE3.out.lt)
  have KR5 := Lib.hid (KR3.out.below bb KR3.out.lt)
  have KS5 := Lib.hid (KS3.out.below bb KS3.out.lt)
  have BS5 := Lib.hid (BS3.out.trans (bb.mono BS3.out.size))
  have R5 := Lib.hid (show CoR W5 W5.heap.size d A5 D5 from r5.up b6)
  have ZD := Lib.hid (show w2.heap.size < w4.heap.size ∧ w.heap.size + 3 ≤ w2.heap.size by have h1 := Z3.out; have h2 := b5.size; have h3 := Z2.out; omega)
  clear k5 b6 s5 r5 b5 off5 bb lc le3 xm x1 lt1 x0
  clear y0 q0
  have x5 : W5.cell? ⟨w.heap.size + 1, 1, none⟩ = some (.int .i64 (t : Int)) := by rw [← HTI.out]; exact mt_cell KE5.out (j := 1) rfl
  have ld5 := bk_load (P := Tryz.prog) 8 KD5.out rfl
  obtain ⟨W6, st6, k6, fb6, fh6, fs6⟩ := st_mkput KS5.out t ht d A5 D5 c5 e5
  have K6 := Lib.hid k6
  have bs6 := fb6 w.heap.size w (Nat.le_refl _) BS5.out
  have OS6 := Lib.hid (show StF W6 (PF w.heap.size s a m A1 D1) (s.put t d) (a.put t A5 D5 c5 e5) from ((StF.of H.out bs6 bs6.size).gr (s' := s) (fun _ _ => rfl)).put ((R5.out.keepB (HNO.out _ HP0.out).1 (HNO.out _ HP0.out).2 ((But.one fh6 fs6)).keep ((But.one fh6 fs6)).size)) HNO.out)
  have BS6 := Lib.hid bs6
  have KR6 := Lib.hid (KR5.out.but (by omega) (But.one fh6 fs6))
  clear k6 fb6 fh6 fs6 bs6
  have u6 := KC5.out.cell 6
  have u0 := KC5.out.cell 0
  have v0 := mt_cell KE5.out (j := 0) rfl
  have MY := Lib.hid (rMayS_any (s.put t d) (a.put t A5 D5 c5 e5) W6.heap.size W6 OS6.out.r (Nat.le_refl _) (HSB.out.put (may_stR (HDM.out (by simp)))))
  have lz := st_load K6.out
  cases hmt : mayS (s.put t d)
  · rw [hmt] at MY
    have HE := Lib.hid (show nextE s m = 2 by rw [HNX.out.1, hmt]; rfl)
    have HT := Lib.hid (show nextS s m = sta00 by rw [HNX.out.2, hmt]; rfl)
    clear hmt
    go_wp2_with fail
    go_loopg [9] 1 (fun mm y wq => y = .int .i64 0 ∧ mm = 1 ∧ wq = W5)
    case atStart => exact ⟨rfl, rfl, rfl⟩
    obtain ⟨rfl, hmm, rfl⟩ := hrel
    clear hmm
    go_wp2_with fail
    refine MY.out.mono ?_
    rintro e w7 ⟨rfl, b7⟩
    clear lz
    obtain ⟨W9, st9, k9, fb9, fh9, fs9⟩ := bk_store (P := Tryz.prog) (ty := 34) (cs := stX sta00 sad0) 31 (KR6.out.below b7 KR6.out.lt) infoSta rfl (stX_size ..) (stX_one ..)
    have K9 := Lib.hid k9
    have B9 := Lib.hid (fb9 w.heap.size w (by omega) (BS6.out.trans (b7.mono BS6.out.size)))
    clear k9 fb9 fh9 fs9
    clear b7
    go_wp2_with fail
    refine bodyPost_ret (v := .tuple #[.agg (stX sta00 sad0), .int .i64 2]) (rnext_ret _ _ _ (w.heap.size + 1 + 1) _ rfl rfl K9.out (stX_size ..)) rfl ?_
    rw [HT.out, HE.out]
    exact ⟨sad0, rfl, sta00_R _ _, B9.out, fun _ _ _ _ _ _ _ => ⟨fun h => absurd h (Nat.lt_irrefl 0), fun h => absurd h (Nat.lt_irrefl 0)⟩⟩
  · rw [hmt] at MY
    have HE := Lib.hid (show nextE s m = 0 by rw [HNX.out.1, hmt]; rfl)
    have HT := Lib.hid (show nextS s m = (s.put t d) by rw [HNX.out.2, hmt]; rfl)
    clear hmt
    go_wp2_with fail
    go_loopg [9] 1 (fun mm y wq => y = .int .i64 0 ∧ mm = 1 ∧ wq = W5)
    case atStart => exact ⟨rfl, rfl, rfl⟩
    obtain ⟨rfl, hmm, rfl⟩ := hrel
    clear hmm
    go_wp2_with fail
    refine MY.out.mono ?_
    rintro e w7 ⟨rfl, b7⟩
    have KS7 := Lib.hid (K6.out.below b7 K6.out.lt)
    have KR7 := Lib.hid (KR6.out.below b7 KR6.out.lt)
    have BS7 := Lib.hid (BS6.out.trans (b7.mono BS6.out.size))
    have OS7 := Lib.hid (show StF w7 (PF w.heap.size s a m A1 D1) (s.put t d) (a.put t A5 D5 c5 e5) from fun j hj => ⟨(OS6.out j hj).1.up b7, (OS6.out j hj).2⟩)
    clear lz b7
    have lo := st_load KS7.out
    obtain ⟨W9, st9, k9, fb9, fh9, fs9⟩ := bk_store (P := Tryz.prog) (ty := 34) (cs := stX (s.put t d) (a.put t A5 D5 c5 e5)) 31 KR7.out infoSta rfl (stX_size ..) (stX_one ..)
    have K9 := Lib.hid k9
    have B9 := Lib.hid (fb9 w.heap.size w (by omega) BS7.out)
    have O9 := Lib.hid (StF.but OS7.out (b := w.heap.size + 1 + 1) HP2.out (But.one fh9 fs9))
    clear k9 fb9 fh9 fs9
    go_wp2_with fail
    refine bodyPost_ret (v := .tuple #[.agg (stX (s.put t d) (a.put t A5 D5 c5 e5)), .int .i64 0]) (rnext_ret _ _ _ (w.heap.size + 1 + 1) _ rfl rfl K9.out (stX_size ..)) rfl ?_
    rw [HT.out, HE.out]
    exact ⟨_, rfl, O9.out.r, B9.out, fun b hb h1 h2 h3 k hk => (O9.out k hk).2 b ⟨by omega, h1, h2, h3⟩⟩
set_option maxRecDepth 100000 in
set_option maxHeartbeats 8000000 in
theorem rNext_mn1p (s : Sta) (a : Sad) (m : Mt) (A1 D1 : Option Addr) (c1 e1 : Nat) (w : World) (h : StR w w.heap.size s a) (h1 : CoR w w.heap.size m.c A1 D1) (hb : StB s) (h8 : -128 ≤ m.c.st) (h9 : m.c.st ≤ 127) (hms : mayS s = true) (hmm : mayM m = true) (t : Nat) (ht : t < 3) (htid : m.tid = (t : Int)) (hk : ¬ (m.kd = 0 ∨ m.kd = 5 ∨ m.kd = 7)) (hE : moveE (s.tid t) m s.made = 0) (hfr : ¬ (m.kd = 1 ∧ (s.tid t).st = 0)) (k1 : m.kd = 1) (hq : 0 < (s.tid t).qs.length) :
    Calls Tryz.prog 37 #[.agg (stX s a), .agg (mtX m A1 D1 c1 e1)] w (NxD s a m A1 D1 (nextS s m) (nextE s m) w) := by
  obtain ⟨W0, hW0⟩ : ∃ W0, W0 = ((w.alloc (.cells (stX s a) 34)).alloc (.cells (mtX m A1 D1 c1 e1) 42)).alloc (.cells #[.int .i64 0, .int .i8 0, .int .i64 0, .int .i64 0, .int .i64 0, .int .i64 0, .slice none 0 0, .slice none 0 0, .int .i64 0, .int .i8 0, .int .i64 0, .int .i64 0, .int .i64 0, .int .i64 0, .slice none 0 0, .slice none 0 0, .int .i64 0, .int .i8 0, .int .i64 0, .int .i64 0, .int .i64 0, .int .i64 0, .slice none 0 0, .slice none 0 0, .int .i64 0, .int .i64 0, .int .i64 0, .int .i64 0, .int .i64 0, .int .i64 0, .int .i64 0] 34) := ⟨_, rfl⟩
  have s0 : W0.heap.size = w.heap.size + 1 + 1 + 1 := by rw [hW0]; simp
  have B0 : Below w.heap.size w W0 := by rw [hW0]; exact bal (bal (bal (Below.refl _ _) _) _) _
  have K1 : Blk W0 w.heap.size 34 (stX s a) := by rw [hW0]; exact ((Blk.new w 34 (stX s a)).alloc _).alloc _
  have K2 : Blk W0 (w.heap.size + 1) 42 (mtX m A1 D1 c1 e1) := by rw [hW0]; exact (bk_new _ 42 _ (by simp)).alloc _
  have K3 : Blk W0 (w.heap.size + 1 + 1) 34 #[.int .i64 0, .int .i8 0, .int .i64 0, .int .i64 0, .int .i64 0, .int .i64 0, .slice none 0 0, .slice none 0 0, .int .i64 0, .int .i8 0, .int .i64 0, .int .i64 0, .int .i64 0, .int .i64 0, .slice none 0 0, .slice none 0 0, .int .i64 0, .int .i8 0, .int .i64 0, .int .i64 0, .int .i64 0, .int .i64 0, .slice none 0 0, .slice none 0 0, .int .i64 0, .int .i64 0, .int .i64 0, .int .i64 0, .int .i64 0, .int .i64 0, .int .i64 0] := by rw [hW0]; exact bk_new _ 34 _ (by simp)
  have HW := Lib.hid hW0
  have HS := Lib.hid s0
  have HB := Lib.hid B0
  have HK1 := Lib.hid K1
  have HK2 := Lib.hid K2
  have HK3 := Lib.hid K3
  have H := Lib.hid h
  have H1 := Lib.hid h1
  have HP0 := Lib.hid (PF.own (b := w.heap.size) h h1 (by omega) (by omega))
  have HP2 := Lib.hid (PF.own (b := w.heap.size + 1 + 1) h h1 (by omega) (by omega))
  have HSB := Lib.hid hb
  have l1 := st_load K1
  have bd : ∀ W, (Instr.build 34 #[]).run Tryz.prog W = .ok (.agg (stX sta00 sad0)) W := fun W => run_build W 34 _ _ (by kernel_rfl)
  have MS := Lib.hid (rMayS_any s a w.heap.size W0 (h.below B0) B0.size hb)
  have MM := Lib.hid (fun W (hb : Below W0.heap.size W0 W) => rMayM_all m A1 D1 c1 e1 w.heap.size W (h1.below (B0.trans (hb.mono B0.size))) (Nat.le_trans B0.size hb.size) h8 h9)
  have htn : m.tid.toNat = t := by rw [htid]; rfl
  have k0 : (m.kd == 0) = false := by simp; omega
  have k5 : (m.kd == 5) = false := by simp; omega
  have k7 : (m.kd == 7) = false := by simp; omega
  have hmd := ((mayS_iff s).1 hms)
  have HMD := Lib.hid (And.intro hmd.1 hmd.2.1)
  obtain ⟨n, hn⟩ : ∃ n, moveE (s.tid t) m s.made = n := ⟨_, rfl⟩
  obtain ⟨d, hd⟩ : ∃ d, moveC (s.tid t) m s.made = d := ⟨_, rfl⟩
  have hnm := next_m hms hmm hk (by rw [htn]; exact hfr)
  rw [htn, hn, hd] at hnm
  rw [hn] at hE
  have HDM := Lib.hid (show n = 0 → mayB d = true from fun h => by rw [← hd]; exact moveC_may ((okT_iff s t).1 (hmd.2.2.1 t ht)).1 hmm hk (by rw [hn]; exact h))
  have HCA := Lib.hid (fun W (hc : CoR W W.heap.size (s.tid t) (a.A t) (a.D t)) (hmc : CoR W W.heap.size m.c A1 D1) => show Calls Tryz.prog 66 #[.agg #[.int .i8 (s.tid t).st, .int .i64 (s.tid t).pid, .int .i64 (s.tid t).ep, .int .i64 (s.tid t).tm, .int .i64 (s.tid t).th, .slice (a.A t) (s.tid t).ps.length (a.c t), .slice (a.D t) (s.tid t).qs.length (a.e t), .int .i64 (s.tid t).ag], .agg (mtX m A1 D1 c1 e1), .int .i64 s.made] W (RmP (s.tid t) (a.A t) (a.D t) m A1 D1 d n W) by
    rw [← hd, ← hn]
    exact rmove_any (s.tid t) (a.A t) (a.D t) (a.c t) (a.e t) m A1 D1 c1 e1 s.made W hc hmc (hb t ht).1 (hb t ht).2 hmd.1 hmd.2.1)
  have fe1 : (m.kd == 1) = true := by rw [k1]; rfl
  have fe0 : ((s.tid t).st == 0) = false := by simpa using (fun h => hfr ⟨k1, h⟩)
  have fe4 : (m.kd == 4) = false := by simp; omega
  have dq : decide ((0 : Int) < (((s.tid t).qs.length : Nat) : Int)) = true := decide_eq_true (by omega)
  have dqn : decide (0 < (s.tid t).qs.length) = true := decide_eq_true (by omega)
  have hcs : (if m.kd = 4 ∧ (s.tid t).st = 3 then (s.tid t).qs else []) = ([] : List Pd) := by
    by_cases h : m.kd = 4 ∧ (s.tid t).st = 3
    · rw [if_pos h]; exact absurd h.1 (by omega)
    · rw [if_neg h]
  rw [hcs] at hnm
  have HNX := Lib.hid (show nextE s m = (if mayS (s.put t d) = true then 0 else 2) ∧ nextS s m = if mayS (s.put t d) = true then s.put t d else sta00 by
    have hts : toS s m = s.put t d := hnm.2
    have hne : nextE s m = if mayS (s.put t d) = true then 0 else 2 := by rw [hnm.1, if_neg (by rw [hE]; simp), hts]
    refine ⟨hne, ?_⟩
    unfold nextS
    rw [hne, hts]
    by_cases h : mayS (s.put t d) = true
    · rw [if_pos h, if_pos h]; rfl
    · rw [if_neg h, if_neg h]; rfl)
  clear hnm hcs
  subst hE
  clear hfr hq k1
  rw [hms] at MS
  rw [hmm] at MM
  clear hW0 s0 B0 K1 K2 K3 h h1 hb h8 h9 hms hmm
  go_enter Tryz.func37, Tryz.ntmps37
  go_upto_region 1 with (fail)
  rw [← HW.out]
  go_wp2_with fail
  refine MS.out.mono ?_
  rintro e w1 ⟨rfl, b1⟩
  have l2 := mt_load (P := Tryz.prog) (HK2.out.below b1 HK2.out.lt)
  have B1 := Lib.hid b1
  clear b1 l1
  go_wp2_with fail
  refine (MM.out _ B1.out).mono ?_
  rintro e w2 ⟨rfl, b2⟩
  have B2 := Lib.hid (B1.out.trans (b2.mono B1.out.size))
  have KS := Lib.hid (HK1.out.below B2.out HK1.out.lt)
  have KE := Lib.hid (HK2.out.below B2.out HK2.out.lt)
  have KR := Lib.hid (HK3.out.below B2.out HK3.out.lt)
  have BS := Lib.hid (HB.out.trans (B2.out.mono HB.out.size))
  have OS := Lib.hid (StF.of (m := m) (A := A1) (D := D1) H.out BS.out BS.out.size)
  have Z2 := Lib.hid (show w.heap.size + 1 + 1 + 1 ≤ w2.heap.size by have := HS.out; have := B2.out.size; omega)
  have x0 := mt_cell KE.out (j := 0) rfl
  clear b2 l2
  have HTI := Lib.hid htid
  have x1 : w2.cell? ⟨w.heap.size + 1, 1, none⟩ = some (.int .i64 (t : Int)) := by rw [← HTI.out]; exact mt_cell KE.out (j := 1) rfl
  have lt1 := st_tid KS.out t ht
  obtain ⟨W3, st3, k3, b3, s3⟩ := bk_fresh (P := Tryz.prog) w2 29 #[.int .i8 0, .int .i64 0, .int .i64 0, .int .i64 0, .int .i64 0, .slice none 0 0, .slice none 0 0, .int .i64 0] #[.int .i8 (s.tid t).st, .int .i64 (s.tid t).pid, .int .i64 (s.tid t).ep, .int .i64 (s.tid t).tm, .int .i64 (s.tid t).th, .slice (a.A t) (s.tid t).ps.length (a.c t), .slice (a.D t) (s.tid t).qs.length (a.e t), .int .i64 (s.tid t).ag] 8 infoCoS rfl rfl (by simp [Value.oneCell'])
  have KC := Lib.hid k3
  have KS3 := Lib.hid (KS.out.below b3 KS.out.lt)
  have KE3 := Lib.hid (KE.out.below b3 KE.out.lt)
  have KR3 := Lib.hid (KR.out.below b3 KR.out.lt)
  have BS3 := Lib.hid (BS.out.trans (b3.mono BS.out.size))
  have OS3 := Lib.hid (show StF W3 (PF w.heap.size s a m A1 D1) s a from fun j hj => ⟨(OS.out j hj).1.up b3, (OS.out j hj).2⟩)
  have Z3 := Lib.hid (show w2.heap.size < W3.heap.size by omega)
  have y0 := mt_cell KE3.out (j := 0) rfl
  have q0 := KC.out.cell 0
  have i1 : (0 : Int) ≤ (t : Int) := by omega
  have i2 : (t : Int) < 3 := by omega
  clear k3 b3 s3 htid
  have xm := st_made KS3.out
  have le3 := mt_load (P := Tryz.prog) KE3.out
  have lc := bk_load (P := Tryz.prog) 8 KC.out rfl
  have CA := Lib.hid (HCA.out W3 (OS3.out t ht).1 (H1.out.up BS3.out))
  clear hk hn hd hmd htn
  go_wp2_with fail
  refine CA.out.mono ?_
  rintro e w4 ⟨A5, D5, c5, e5, rfl, r5, b5, off5⟩
  obtain ⟨W5, st5, k5, b6, s5⟩ := bk_fresh (P := Tryz.prog) w4 29 #[.int .i8 0, .int .i64 0, .int .i64 0, .int .i64 0, .int .i64 0, .slice none 0 0, .slice none 0 0, .int .i64 0] #[.int .i8 d.st, .int .i64 d.pid, .int .i64 d.ep, .int .i64 d.tm, .int .i64 d.th, .slice A5 d.ps.length c5, .slice D5 d.qs.length e5, .int .i64 d.ag] 8 infoCoS rfl rfl (by simp [Value.oneCell'])
  have HNO := Lib.hid (fun b (hp : PF w.heap.size s a m A1 D1 b) => off5 b (by have := Z2.out; have := Z3.out; have := hp.1; omega) ((OS3.out t ht).2 b hp).1 ((OS3.out t ht).2 b hp).2 hp.2.2.1 hp.2.2.2)
  have bb : Below W3.heap.size W3 W5 := b5.trans (b6.mono b5.size)
  have KC5 := Lib.hid (KC.out.below bb KC.out.lt)
  have KD5 := Lib.hid k5
  have KE5 := Lib.hid (KE3.out.below bb KE3.out.lt)
  have KR5 := Lib.hid (KR3.out.below bb KR3.out.lt)
  have KS5 := Lib.hid (KS3.out.below bb KS3.out.lt)
  have BS5 := Lib.hid (BS3.out.trans (bb.mono BS3.out.size))
  have R5 := Lib.hid (show CoR W5 W5.heap.size d A5 D5 from r5.up b6)
  have ZD := Lib.hid (show w2.heap.size < w4.heap.size ∧ w.heap.size + 3 ≤ w2.heap.size by have h1 := Z3.out; have h2 := b5.size; have h3 := Z2.out; omega)
  clear k5 b6 s5 r5 b5 off5 bb lc le3 xm x1 lt1 x0
  clear y0 q0
  have x5 : W5.cell? ⟨w.heap.size + 1, 1, none⟩ = some (.int .i64 (t : Int)) := by rw [← HTI.out]; exact mt_cell KE5.out (j := 1) rfl
  have ld5 := bk_load (P := Tryz.prog) 8 KD5.out rfl
  obtain ⟨W6, st6, k6, fb6, fh6, fs6⟩ := st_mkput KS5.out t ht d A5 D5 c5 e5
  have K6 := Lib.hid k6
  have bs6 := fb6 w.heap.size w (Nat.le_refl _) BS5.out
  have OS6 := Lib.hid (show StF W6 (PF w.heap.size s a m A1 D1) (s.put t d) (a.put t A5 D5 c5 e5) from ((StF.of H.out bs6 bs6.size).gr (s' := s) (fun _ _ => rfl)).put ((R5.out.keepB (HNO.out _ HP0.out).1 (HNO.out _ HP0.out).2 ((But.one fh6 fs6)).keep ((But.one fh6 fs6)).size)) HNO.out)
  have BS6 := Lib.hid bs6
  have KR6 := Lib.hid (KR5.out.but (by omega) (But.one fh6 fs6))
  clear k6 fb6 fh6 fs6 bs6
  have u6 := KC5.out.cell 6
  have u0 := KC5.out.cell 0
  have v0 := mt_cell KE5.out (j := 0) rfl
  have MY := Lib.hid (rMayS_any (s.put t d) (a.put t A5 D5 c5 e5) W6.heap.size W6 OS6.out.r (Nat.le_refl _) (HSB.out.put (may_stR (HDM.out (by simp)))))
  have lz := st_load K6.out
  cases hmt : mayS (s.put t d)
  · rw [hmt] at MY
    have HE := Lib.hid (show nextE s m = 2 by rw [HNX.out.1, hmt]; rfl)
    have HT := Lib.hid (show nextS s m = sta00 by rw [HNX.out.2, hmt]; rfl)
    clear hmt
    go_wp2_with fail
    go_loopg [9] 1 (fun mm y wq => y = .int .i64 0 ∧ mm = 1 ∧ wq = W5)
    case atStart => exact ⟨rfl, rfl, rfl⟩
    obtain ⟨rfl, hmm, rfl⟩ := hrel
    clear hmm
    go_wp2_with fail
    refine MY.out.mono ?_
    rintro e w7 ⟨rfl, b7⟩
    clear lz
    obtain ⟨W9, st9, k9, fb9, fh9, fs9⟩ := bk_store (P := Tryz.prog) (ty := 34) (cs := stX sta00 sad0) 31 (KR6.out.below b7 KR6.out.lt) infoSta rfl (stX_size ..) (stX_one ..)
    have K9 := Lib.hid k9
    have B9 := Lib.hid (fb9 w.heap.size w (by omega) (BS6.out.trans (b7.mono BS6.out.size)))
    clear k9 fb9 fh9 fs9
    clear b7
    go_wp2_with fail
    refine bodyPost_ret (v := .tuple #[.agg (stX sta00 sad0), .int .i64 2]) (rnext_ret _ _ _ (w.heap.size + 1 + 1) _ rfl rfl K9.out (stX_size ..)) rfl ?_
    rw [HT.out, HE.out]
    exact ⟨sad0, rfl, sta00_R _ _, B9.out, fun _ _ _ _ _ _ _ => ⟨fun h => absurd h (Nat.lt_irrefl 0), fun h => absurd h (Nat.lt_irrefl 0)⟩⟩
  · rw [hmt] at MY
    have HE := Lib.hid (show nextE s m = 0 by rw [HNX.out.1, hmt]; rfl)
    have HT := Lib.hid (show nextS s m = (s.put t d) by rw [HNX.out.2, hmt]; rfl)
    clear hmt
    go_wp2_with fail
    go_loopg [9] 1 (fun mm y wq => y = .int .i64 0 ∧ mm = 1 ∧ wq = W5)
    case atStart => exact ⟨rfl, rfl, rfl⟩
    obtain ⟨rfl, hmm, rfl⟩ := hrel
    clear hmm
    go_wp2_with fail
    refine MY.out.mono ?_
    rintro e w7 ⟨rfl, b7⟩
    have KS7 := Lib.hid (K6.out.below b7 K6.out.lt)
    have KR7 := Lib.hid (KR6.out.below b7 KR6.out.lt)
    have BS7 := Lib.hid (BS6.out.trans (b7.mono BS6.out.size))
    have OS7 := Lib.hid (show StF w7 (PF w.heap.size s a m A1 D1) (s.put t d) (a.put t A5 D5 c5 e5) from fun j hj => ⟨(OS6.out j hj).1.up b7, (OS6.out j hj).2⟩)
    clear lz b7
    have lo := st_load KS7.out
    obtain ⟨W9, st9, k9, fb9, fh9, fs9⟩ := bk_store (P := Tryz.prog) (ty := 34) (cs := stX (s.put t d) (a.put t A5 D5 c5 e5)) 31 KR7.out infoSta rfl (stX_size ..) (stX_one ..)
    have K9 := Lib.hid k9
    have B9 := Lib.hid (fb9 w.heap.size w (by omega) BS7.out)
    have O9 := Lib.hid (StF.but OS7.out (b := w.heap.size + 1 + 1) HP2.out (But.one fh9 fs9))
    clear k9 fb9 fh9 fs9
    go_wp2_with fail
    refine bodyPost_ret (v := .tuple #[.agg (stX (s.put t d) (a.put t A5 D5 c5 e5)), .int .i64 0]) (rnext_ret _ _ _ (w.heap.size + 1 + 1) _ rfl rfl K9.out (stX_size ..)) rfl ?_
    rw [HT.out, HE.out]
    exact ⟨_, rfl, O9.out.r, B9.out, fun b hb h1 h2 h3 k hk => (O9.out k hk).2 b ⟨by omega, h1, h2, h3⟩⟩
set_option maxRecDepth 100000 in
set_option maxHeartbeats 8000000 in
theorem rNext_mn2z (s : Sta) (a : Sad) (m : Mt) (A1 D1 : Option Addr) (c1 e1 : Nat) (w : World) (h : StR w w.heap.size s a) (h1 : CoR w w.heap.size m.c A1 D1) (hb : StB s) (h8 : -128 ≤ m.c.st) (h9 : m.c.st ≤ 127) (hms : mayS s = true) (hmm : mayM m = true) (t : Nat) (ht : t < 3) (htid : m.tid = (t : Int)) (hk : ¬ (m.kd = 0 ∨ m.kd = 5 ∨ m.kd = 7)) (hE : moveE (s.tid t) m s.made = 0) (hfr : ¬ (m.kd = 1 ∧ (s.tid t).st = 0)) (k1 : ¬ m.kd = 1) (k4 : ¬ m.kd = 4) (hq : (s.tid t).qs.length = 0) :
    Calls Tryz.prog 37 #[.agg (stX s a), .agg (mtX m A1 D1 c1 e1)] w (NxD s a m A1 D1 (nextS s m) (nextE s m) w) := by
  obtain ⟨W0, hW0⟩ : ∃ W0, W0 = ((w.alloc (.cells (stX s a) 34)).alloc (.cells (mtX m A1 D1 c1 e1) 42)).alloc (.cells #[.int .i64 0, .int .i8 0, .int .i64 0, .int .i64 0, .int .i64 0, .int .i64 0, .slice none 0 0, .slice none 0 0, .int .i64 0, .int .i8 0, .int .i64 0, .int .i64 0, .int .i64 0, .int .i64 0, .slice none 0 0, .slice none 0 0, .int .i64 0, .int .i8 0, .int .i64 0, .int .i64 0, .int .i64 0, .int .i64 0, .slice none 0 0, .slice none 0 0, .int .i64 0, .int .i64 0, .int .i64 0, .int .i64 0, .int .i64 0, .int .i64 0, .int .i64 0] 34) := ⟨_, rfl⟩
  have s0 : W0.heap.size = w.heap.size + 1 + 1 + 1 := by rw [hW0]; simp
  have B0 : Below w.heap.size w W0 := by rw [hW0]; exact bal (bal (bal (Below.refl _ _) _) _) _
  have K1 : Blk W0 w.heap.size 34 (stX s a) := by rw [hW0]; exact ((Blk.new w 34 (stX s a)).alloc _).alloc _
  have K2 : Blk W0 (w.heap.size + 1) 42 (mtX m A1 D1 c1 e1) := by rw [hW0]; exact (bk_new _ 42 _ (by simp)).alloc _
  have K3 : Blk W0 (w.heap.size + 1 + 1) 34 #[.int .i64 0, .int .i8 0, .int .i64 0, .int .i64 0, .int .i64 0, .int .i64 0, .slice none 0 0, .slice none 0 0, .int .i64 0, .int .i8 0, .int .i64 0, .int .i64 0, .int .i64 0, .int .i64 0, .slice none 0 0, .slice none 0 0, .int .i64 0, .int .i8 0, .int .i64 0, .int .i64 0, .int .i64 0, .int .i64 0, .slice none 0 0, .slice none 0 0, .int .i64 0, .int .i64 0, .int .i64 0, .int .i64 0, .int .i64 0, .int .i64 0, .int .i64 0] := by rw [hW0]; exact bk_new _ 34 _ (by simp)
  have HW := Lib.hid hW0
  have HS := Lib.hid s0
  have HB := Lib.hid B0
  have HK1 := Lib.hid K1
  have HK2 := Lib.hid K2
  have HK3 := Lib.hid K3
  have H := Lib.hid h
  have H1 := Lib.hid h1
  have HP0 := Lib.hid (PF.own (b := w.heap.size) h h1 (by omega) (by omega))
  have HP2 := Lib.hid (PF.own (b := w.heap.size + 1 + 1) h h1 (by omega) (by omega))
  have HSB := Lib.hid hb
  have l1 := st_load K1
  have bd : ∀ W, (Instr.build 34 #[]).run Tryz.prog W = .ok (.agg (stX sta00 sad0)) W := fun W => run_build W 34 _ _ (by kernel_rfl)
  have MS := Lib.hid (rMayS_any s a w.heap.size W0 (h.below B0) B0.size hb)
  have MM := Lib.hid (fun W (hb : Below W0.heap.size W0 W) => rMayM_all m A1 D1 c1 e1 w.heap.size W (h1.below (B0.trans (hb.mono B0.size))) (Nat.le_trans B0.size hb.size) h8 h9)
  have htn : m.tid.toNat = t := by rw [htid]; rfl
  have k0 : (m.kd == 0) = false := by simp; omega
  have k5 : (m.kd == 5) = false := by simp; omega
  have k7 : (m.kd == 7) = false := by simp; omega
  have hmd := ((mayS_iff s).1 hms)
  have HMD := Lib.hid (And.intro hmd.1 hmd.2.1)
  obtain ⟨n, hn⟩ : ∃ n, moveE (s.tid t) m s.made = n := ⟨_, rfl⟩
  obtain ⟨d, hd⟩ : ∃ d, moveC (s.tid t) m s.made = d := ⟨_, rfl⟩
  have hnm := next_m hms hmm hk (by rw [htn]; exact hfr)
  rw [htn, hn, hd] at hnm
  rw [hn] at hE
  have HDM := Lib.hid (show n = 0 → mayB d = true from fun h => by rw [← hd]; exact moveC_may ((okT_iff s t).1 (hmd.2.2.1 t ht)).1 hmm hk (by rw [hn]; exact h))
  have HCA := Lib.hid (fun W (hc : CoR W W.heap.size (s.tid t) (a.A t) (a.D t)) (hmc : CoR W W.heap.size m.c A1 D1) => show Calls Tryz.prog 66 #[.agg #[.int .i8 (s.tid t).st, .int .i64 (s.tid t).pid, .int .i64 (s.tid t).ep, .int .i64 (s.tid t).tm, .int .i64 (s.tid t).th, .slice (a.A t) (s.tid t).ps.length (a.c t), .slice (a.D t) (s.tid t).qs.length (a.e t), .int .i64 (s.tid t).ag], .agg (mtX m A1 D1 c1 e1), .int .i64 s.made] W (RmP (s.tid t) (a.A t) (a.D t) m A1 D1 d n W) by
    rw [← hd, ← hn]
    exact rmove_any (s.tid t) (a.A t) (a.D t) (a.c t) (a.e t) m A1 D1 c1 e1 s.made W hc hmc (hb t ht).1 (hb t ht).2 hmd.1 hmd.2.1)
  have fe1 : (m.kd == 1) = false := by simpa using k1
  have fe4 : (m.kd == 4) = false := by simpa using k4
  have dq : decide ((0 : Int) < (((s.tid t).qs.length : Nat) : Int)) = false := decide_eq_false (by omega)
  have dqn : decide (0 < (s.tid t).qs.length) = false := decide_eq_false (by omega)
  have hcs : (if m.kd = 4 ∧ (s.tid t).st = 3 then (s.tid t).qs else []) = ([] : List Pd) := by
    by_cases h : m.kd = 4 ∧ (s.tid t).st = 3
    · rw [if_pos h]; exact absurd h.1 k4
    · rw [if_neg h]
  rw [hcs] at hnm
  have HNX := Lib.hid (show nextE s m = (if mayS (s.put t d) = true then 0 else 2) ∧ nextS s m = if mayS (s.put t d) = true then s.put t d else sta00 by
    have hts : toS s m = s.put t d := hnm.2
    have hne : nextE s m = if mayS (s.put t d) = true then 0 else 2 := by rw [hnm.1, if_neg (by rw [hE]; simp), hts]
    refine ⟨hne, ?_⟩
    unfold nextS
    rw [hne, hts]
    by_cases h : mayS (s.put t d) = true
    · rw [if_pos h, if_pos h]; rfl
    · rw [if_neg h, if_neg h]; rfl)
  clear hnm hcs
  subst hE
  clear hfr hq k1 k4
  rw [hms] at MS
  rw [hmm] at MM
  clear hW0 s0 B0 K1 K2 K3 h h1 hb h8 h9 hms hmm
  go_enter Tryz.func37, Tryz.ntmps37
  go_upto_region 1 with (fail)
  rw [← HW.out]
  go_wp2_with fail
  refine MS.out.mono ?_
  rintro e w1 ⟨rfl, b1⟩
  have l2 := mt_load (P := Tryz.prog) (HK2.out.below b1 HK2.out.lt)
  have B1 := Lib.hid b1
  clear b1 l1
  go_wp2_with fail
  refine (MM.out _ B1.out).mono ?_
  rintro e w2 ⟨rfl, b2⟩
  have B2 := Lib.hid (B1.out.trans (b2.mono B1.out.size))
  have KS := Lib.hid (HK1.out.below B2.out HK1.out.lt)
  have KE := Lib.hid (HK2.out.below B2.out HK2.out.lt)
  have KR := Lib.hid (HK3.out.below B2.out HK3.out.lt)
  have BS := Lib.hid (HB.out.trans (B2.out.mono HB.out.size))
  have OS := Lib.hid (StF.of (m := m) (A := A1) (D := D1) H.out BS.out BS.out.size)
  have Z2 := Lib.hid (show w.heap.size + 1 + 1 + 1 ≤ w2.heap.size by have := HS.out; have := B2.out.size; omega)
  have x0 := mt_cell KE.out (j := 0) rfl
  clear b2 l2
  have HTI := Lib.hid htid
  have x1 : w2.cell? ⟨w.heap.size + 1, 1, none⟩ = some (.int .i64 (t : Int)) := by rw [← HTI.out]; exact mt_cell KE.out (j := 1) rfl
  have lt1 := st_tid KS.out t ht
  obtain ⟨W3, st3, k3, b3, s3⟩ := bk_fresh (P := Tryz.prog) w2 29 #[.int .i8 0, .int .i64 0, .int .i64 0, .int .i64 0, .int .i64 0, .slice none 0 0, .slice none 0 0, .int .i64 0] #[.int .i8 (s.tid t).st, .int .i64 (s.tid t).pid, .int .i64 (s.tid t).ep, .int .i64 (s.tid t).tm, .int .i64 (s.tid t).th, .slice (a.A t) (s.tid t).ps.length (a.c t), .slice (a.D t) (s.tid t).qs.length (a.e t), .int .i64 (s.tid t).ag] 8 infoCoS rfl rfl (by simp [Value.oneCell'])
  have KC := Lib.hid k3
  have KS3 := Lib.hid (KS.out.below b3 KS.out.lt)
  have KE3 := Lib.hid (KE.out.below b3 KE.out.lt)
  have KR3 := Lib.hid (KR.out.below b3 KR.out.lt)
  have BS3 := Lib.hid (BS.out.trans (b3.mono BS.out.size))
  have OS3 := Lib.hid (show StF W3 (PF w.heap.size s a m A1 D1) s a from fun j hj => ⟨(OS.out j hj).1.up b3, (OS.out j hj).2⟩)
  have Z3 := Lib.hid (show w2.heap.size < W3.heap.size by omega)
  have y0 := mt_cell KE3.out (j := 0) rfl
  have q0 := KC.out.cell 0
  have i1 : (0 : Int) ≤ (t : Int) := by omega
  have i2 : (t : Int) < 3 := by omega
  clear k3 b3 s3 htid
  have xm := st_made KS3.out
  have le3 := mt_load (P := Tryz.prog) KE3.out
  have lc := bk_load (P := Tryz.prog) 8 KC.out rfl
  have CA := Lib.hid (HCA.out W3 (OS3.out t ht).1 (H1.out.up BS3.out))
  clear hk hn hd hmd htn
  go_wp2_with fail
  refine CA.out.mono ?_
  rintro e w4 ⟨A5, D5, c5, e5, rfl, r5, b5, off5⟩
  obtain ⟨W5, st5, k5, b6, s5⟩ := bk_fresh (P := Tryz.prog) w4 29 #[.int .i8 0, .int .i64 0, .int .i64 0, .int .i64 0, .int .i64 0, .slice none 0 0, .slice none 0 0, .int .i64 0] #[.int .i8 d.st, .int .i64 d.pid, .int .i64 d.ep, .int .i64 d.tm, .int .i64 d.th, .slice A5 d.ps.length c5, .slice D5 d.qs.length e5, .int .i64 d.ag] 8 infoCoS rfl rfl (by simp [Value.oneCell'])
  have HNO := Lib.hid (fun b (hp : PF w.heap.size s a m A1 D1 b) => off5 b (by have := Z2.out; have := Z3.out; have := hp.1; omega) ((OS3.out t ht).2 b hp).1 ((OS3.out t ht).2 b hp).2 hp.2.2.1 hp.2.2.2)
  have bb : Below W3.heap.size W3 W5 := b5.trans (b6.mono b5.size)
  have KC5 := Lib.hid (KC.out.below bb KC.out.lt)
  have KD5 := Lib.hid k5
  have KE5 := Lib.hid (KE3.out.below bb KE3.out.lt)
  have KR5 := Lib.hid (KR3.out.below bb KR3.out.lt)
  have KS5 := Lib.hid (KS3.out.below bb KS3.out.lt)
  have BS5 := Lib.hid (BS3.out.trans (bb.mono BS3.out.size))
  have R5 := Lib.hid (show CoR W5 W5.heap.size d A5 D5 from r5.up b6)
  have ZD := Lib.hid (show w2.heap.size < w4.heap.size ∧ w.heap.size + 3 ≤ w2.heap.size by have h1 := Z3.out; have h2 := b5.size; have h3 := Z2.out; omega)
  clear k5 b6 s5 r5 b5 off5 bb lc le3 xm x1 lt1 x0
  clear y0 q0
  have x5 : W5.cell? ⟨w.heap.size + 1, 1, none⟩ = some (.int .i64 (t : Int)) := by rw [← HTI.out]; exact mt_cell KE5.out (j := 1) rfl
  have ld5 := bk_load (P := Tryz.prog) 8 KD5.out rfl
  obtain ⟨W6, st6, k6, fb6, fh6, fs6⟩ := st_mkput KS5.out t ht d A5 D5 c5 e5
  have K6 := Lib.hid k6
  have bs6 := fb6 w.heap.size w (Nat.le_refl _) BS5.out
  have OS6 := Lib.hid (show StF W6 (PF w.heap.size s a m A1 D1) (s.put t d) (a.put t A5 D5 c5 e5) from ((StF.of H.out bs6 bs6.size).gr (s' := s) (fun _ _ => rfl)).put ((R5.out.keepB (HNO.out _ HP0.out).1 (HNO.out _ HP0.out).2 ((But.one fh6 fs6)).keep ((But.one fh6 fs6)).size)) HNO.out)
  have BS6 := Lib.hid bs6
  have KR6 := Lib.hid (KR5.out.but (by omega) (But.one fh6 fs6))
  clear k6 fb6 fh6 fs6 bs6
  have u6 := KC5.out.cell 6
  have u0 := KC5.out.cell 0
  have v0 := mt_cell KE5.out (j := 0) rfl
  have MY := Lib.hid (rMayS_any (s.put t d) (a.put t A5 D5 c5 e5) W6.heap.size W6 OS6.out.r (Nat.le_refl _) (HSB.out.put (may_stR (HDM.out (by simp)))))
  have lz := st_load K6.out
  cases hmt : mayS (s.put t d)
  · rw [hmt] at MY
    have HE := Lib.hid (show nextE s m = 2 by rw [HNX.out.1, hmt]; rfl)
    have HT := Lib.hid (show nextS s m = sta00 by rw [HNX.out.2, hmt]; rfl)
    clear hmt
    go_wp2_with fail
    go_loopg [9] 1 (fun mm y wq => y = .int .i64 0 ∧ mm = 1 ∧ wq = W5)
    case atStart => exact ⟨rfl, rfl, rfl⟩
    obtain ⟨rfl, hmm, rfl⟩ := hrel
    clear hmm
    go_wp2_with fail
    refine MY.out.mono ?_
    rintro e w7 ⟨rfl, b7⟩
    clear lz
    obtain ⟨W9, st9, k9, fb9, fh9, fs9⟩ := bk_store (P := Tryz.prog) (ty := 34) (cs := stX sta00 sad0) 31 (KR6.out.below b7 KR6.out.lt) infoSta rfl (stX_size ..) (stX_one ..)
    have K9 := Lib.hid k9
    have B9 := Lib.hid (fb9 w.heap.size w (by omega) (BS6.out.trans (b7.mono BS6.out.size)))
    clear k9 fb9 fh9 fs9
    clear b7
    go_wp2_with fail
    refine bodyPost_ret (v := .tuple #[.agg (stX sta00 sad0), .int .i64 2]) (rnext_ret _ _ _ (w.heap.size + 1 + 1) _ rfl rfl K9.out (stX_size ..)) rfl ?_
    rw [HT.out, HE.out]
    exact ⟨sad0, rfl, sta00_R _ _, B9.out, fun _ _ _ _ _ _ _ => ⟨fun h => absurd h (Nat.lt_irrefl 0), fun h => absurd h (Nat.lt_irrefl 0)⟩⟩
  · rw [hmt] at MY
    have HE := Lib.hid (show nextE s m = 0 by rw [HNX.out.1, hmt]; rfl)
    have HT := Lib.hid (show nextS s m = (s.put t d) by rw [HNX.out.2, hmt]; rfl)
    clear hmt
    go_wp2_with fail
    go_loopg [9] 1 (fun mm y wq => y = .int .i64 0 ∧ mm = 1 ∧ wq = W5)
    case atStart => exact ⟨rfl, rfl, rfl⟩
    obtain ⟨rfl, hmm, rfl⟩ := hrel
    clear hmm
    go_wp2_with fail
    refine MY.out.mono ?_
    rintro e w7 ⟨rfl, b7⟩
    have KS7 := Lib.hid (K6.out.below b7 K6.out.lt)
    have KR7 := Lib.hid (KR6.out.below b7 KR6.out.lt)
    have BS7 := Lib.hid (BS6.out.trans (b7.mono BS6.out.size))
    have OS7 := Lib.hid (show StF w7 (PF w.heap.size s a m A1 D1) (s.put t d) (a.put t A5 D5 c5 e5) from fun j hj => ⟨(OS6.out j hj).1.up b7, (OS6.out j hj).2⟩)
    clear lz b7
    have lo := st_load KS7.out
    obtain ⟨W9, st9, k9, fb9, fh9, fs9⟩ := bk_store (P := Tryz.prog) (ty := 34) (cs := stX (s.put t d) (a.put t A5 D5 c5 e5)) 31 KR7.out infoSta rfl (stX_size ..) (stX_one ..)
    have K9 := Lib.hid k9
    have B9 := Lib.hid (fb9 w.heap.size w (by omega) BS7.out)
    have O9 := Lib.hid (StF.but OS7.out (b := w.heap.size + 1 + 1) HP2.out (But.one fh9 fs9))
    clear k9 fb9 fh9 fs9
    go_wp2_with fail
    refine bodyPost_ret (v := .tuple #[.agg (stX (s.put t d) (a.put t A5 D5 c5 e5)), .int .i64 0]) (rnext_ret _ _ _ (w.heap.size + 1 + 1) _ rfl rfl K9.out (stX_size ..)) rfl ?_
    rw [HT.out, HE.out]
    exact ⟨_, rfl, O9.out.r, B9.out, fun b hb h1 h2 h3 k hk => (O9.out k hk).2 b ⟨by omega, h1, h2, h3⟩⟩
set_option maxRecDepth 100000 in
set_option maxHeartbeats 8000000 in
theorem rNext_mn2p (s : Sta) (a : Sad) (m : Mt) (A1 D1 : Option Addr) (c1 e1 : Nat) (w : World) (h : StR w w.heap.size s a) (h1 : CoR w w.heap.size m.c A1 D1) (hb : StB s) (h8 : -128 ≤ m.c.st) (h9 : m.c.st ≤ 127) (hms : mayS s = true) (hmm : mayM m = true) (t : Nat) (ht : t < 3) (htid : m.tid = (t : Int)) (hk : ¬ (m.kd = 0 ∨ m.kd = 5 ∨ m.kd = 7)) (hE : moveE (s.tid t) m s.made = 0) (hfr : ¬ (m.kd = 1 ∧ (s.tid t).st = 0)) (k1 : ¬ m.kd = 1) (k4 : ¬ m.kd = 4) (hq : 0 < (s.tid t).qs.length) :
    Calls Tryz.prog 37 #[.agg (stX s a), .agg (mtX m A1 D1 c1 e1)] w (NxD s a m A1 D1 (nextS s m) (nextE s m) w) := by
  obtain ⟨W0, hW0⟩ : ∃ W0, W0 = ((w.alloc (.cells (stX s a) 34)).alloc (.cells (mtX m A1 D1 c1 e1) 42)).alloc (.cells #[.int .i64 0, .int .i8 0, .int .i64 0, .int .i64 0, .int .i64 0, .int .i64 0, .slice none 0 0, .slice none 0 0, .int .i64 0, .int .i8 0, .int .i64 0, .int .i64 0, .int .i64 0, .int .i64 0, .slice none 0 0, .slice none 0 0, .int .i64 0, .int .i8 0, .int .i64 0, .int .i64 0, .int .i64 0, .int .i64 0, .slice none 0 0, .slice none 0 0, .int .i64 0, .int .i64 0, .int .i64 0, .int .i64 0, .int .i64 0, .int .i64 0, .int .i64 0] 34) := ⟨_, rfl⟩
  have s0 : W0.heap.size = w.heap.size + 1 + 1 + 1 := by rw [hW0]; simp
  have B0 : Below w.heap.size w W0 := by rw [hW0]; exact bal (bal (bal (Below.refl _ _) _) _) _
  have K1 : Blk W0 w.heap.size 34 (stX s a) := by rw [hW0]; exact ((Blk.new w 34 (stX s a)).alloc _).alloc _
  have K2 : Blk W0 (w.heap.size + 1) 42 (mtX m A1 D1 c1 e1) := by rw [hW0]; exact (bk_new _ 42 _ (by simp)).alloc _
  have K3 : Blk W0 (w.heap.size + 1 + 1) 34 #[.int .i64 0, .int .i8 0, .int .i64 0, .int .i64 0, .int .i64 0, .int .i64 0, .slice none 0 0, .slice none 0 0, .int .i64 0, .int .i8 0, .int .i64 0, .int .i64 0, .int .i64 0, .int .i64 0, .slice none 0 0, .slice none 0 0, .int .i64 0, .int .i8 0, .int .i64 0, .int .i64 0, .int .i64 0, .int .i64 0, .slice none 0 0, .slice none 0 0, .int .i64 0, .int .i64 0, .int .i64 0, .int .i64 0, .int .i64 0, .int .i64 0, .int .i64 0] := by rw [hW0]; exact bk_new _ 34 _ (by simp)
  have HW := Lib.hid hW0
  have HS := Lib.hid s0
  have HB := Lib.hid B0
  have HK1 := Lib.hid K1
  have HK2 := Lib.hid K2
  have HK3 := Lib.hid K3
  have H := Lib.hid h
  have H1 := Lib.hid h1
  have HP0 := Lib.hid (PF.own (b := w.heap.size) h h1 (by omega) (by omega))
  have HP2 := Lib.hid (PF.own (b := w.heap.size + 1 + 1) h h1 (by omega) (by omega))
  have HSB := Lib.hid hb
  have l1 := st_load K1
  have bd : ∀ W, (Instr.build 34 #[]).run Tryz.prog W = .ok (.agg (stX sta00 sad0)) W := fun W => run_build W 34 _ _ (by kernel_rfl)
  have MS := Lib.hid (rMayS_any s a w.heap.size W0 (h.below B0) B0.size hb)
  have MM := Lib.hid (fun W (hb : Below W0.heap.size W0 W) => rMayM_all m A1 D1 c1 e1 w.heap.size W (h1.below (B0.trans (hb.mono B0.size))) (Nat.le_trans B0.size hb.size) h8 h9)
  have htn : m.tid.toNat = t := by rw [htid]; rfl
  have k0 : (m.kd == 0) = false := by simp; omega
  have k5 : (m.kd == 5) = false := by simp; omega
  have k7 : (m.kd == 7) = false := by simp; omega
  have hmd := ((mayS_iff s).1 hms)
  have HMD := Lib.hid (And.intro hmd.1 hmd.2.1)
  obtain ⟨n, hn⟩ : ∃ n, moveE (s.tid t) m s.made = n := ⟨_, rfl⟩
  obtain ⟨d, hd⟩ : ∃ d, moveC (s.tid t) m s.made = d := ⟨_, rfl⟩
  have hnm := next_m hms hmm hk (by rw [htn]; exact hfr)
  rw [htn, hn, hd] at hnm
  rw [hn] at hE
  have HDM := Lib.hid (show n = 0 → mayB d = true from fun h => by rw [← hd]; exact moveC_may ((okT_iff s t).1 (hmd.2.2.1 t ht)).1 hmm hk (by rw [hn]; exact h))
  have HCA := Lib.hid (fun W (hc : CoR W W.heap.size (s.tid t) (a.A t) (a.D t)) (hmc : CoR W W.heap.size m.c A1 D1) => show Calls Tryz.prog 66 #[.agg #[.int .i8 (s.tid t).st, .int .i64 (s.tid t).pid, .int .i64 (s.tid t).ep, .int .i64 (s.tid t).tm, .int .i64 (s.tid t).th, .slice (a.A t) (s.tid t).ps.length (a.c t), .slice (a.D t) (s.tid t).qs.length (a.e t), .int .i64 (s.tid t).ag], .agg (mtX m A1 D1 c1 e1), .int .i64 s.made] W (RmP (s.tid t) (a.A t) (a.D t) m A1 D1 d n W) by
    rw [← hd, ← hn]
    exact rmove_any (s.tid t) (a.A t) (a.D t) (a.c t) (a.e t) m A1 D1 c1 e1 s.made W hc hmc (hb t ht).1 (hb t ht).2 hmd.1 hmd.2.1)
  have fe1 : (m.kd == 1) = false := by simpa using k1
  have fe4 : (m.kd == 4) = false := by simpa using k4
  have dq : decide ((0 : Int) < (((s.tid t).qs.length : Nat) : Int)) = true := decide_eq_true (by omega)
  have dqn : decide (0 < (s.tid t).qs.length) = true := decide_eq_true (by omega)
  have hcs : (if m.kd = 4 ∧ (s.tid t).st = 3 then (s.tid t).qs else []) = ([] : List Pd) := by
    by_cases h : m.kd = 4 ∧ (s.tid t).st = 3
    · rw [if_pos h]; exact absurd h.1 k4
    · rw [if_neg h]
  rw [hcs] at hnm
  have HNX := Lib.hid (show nextE s m = (if mayS (s.put t d) = true then 0 else 2) ∧ nextS s m = if mayS (s.put t d) = true then s.put t d else sta00 by
    have hts : toS s m = s.put t d := hnm.2
    have hne : nextE s m = if mayS (s.put t d) = true then 0 else 2 := by rw [hnm.1, if_neg (by rw [hE]; simp), hts]
    refine ⟨hne, ?_⟩
    unfold nextS
    rw [hne, hts]
    by_cases h : mayS (s.put t d) = true
    · rw [if_pos h, if_pos h]; rfl
    · rw [if_neg h, if_neg h]; rfl)
  clear hnm hcs
  subst hE
  clear hfr hq k1 k4
  rw [hms] at MS
  rw [hmm] at MM
  clear hW0 s0 B0 K1 K2 K3 h h1 hb h8 h9 hms hmm
  go_enter Tryz.func37, Tryz.ntmps37
  go_upto_region 1 with (fail)
  rw [← HW.out]
  go_wp2_with fail
  refine MS.out.mono ?_
  rintro e w1 ⟨rfl, b1⟩
  have l2 := mt_load (P := Tryz.prog) (HK2.out.below b1 HK2.out.lt)
  have B1 := Lib.hid b1
  clear b1 l1
  go_wp2_with fail
  refine (MM.out _ B1.out).mono ?_
  rintro e w2 ⟨rfl, b2⟩
  have B2 := Lib.hid (B1.out.trans (b2.mono B1.out.size))
  have KS := Lib.hid (HK1.out.below B2.out HK1.out.lt)
  have KE := Lib.hid (HK2.out.below B2.out HK2.out.lt)
  have KR := Lib.hid (HK3.out.below B2.out HK3.out.lt)
  have BS := Lib.hid (HB.out.trans (B2.out.mono HB.out.size))
  have OS := Lib.hid (StF.of (m := m) (A := A1) (D := D1) H.out BS.out BS.out.size)
  have Z2 := Lib.hid (show w.heap.size + 1 + 1 + 1 ≤ w2.heap.size by have := HS.out; have := B2.out.size; omega)
  have x0 := mt_cell KE.out (j := 0) rfl
  clear b2 l2
  have HTI := Lib.hid htid
  have x1 : w2.cell? ⟨w.heap.size + 1, 1, none⟩ = some (.int .i64 (t : Int)) := by rw [← HTI.out]; exact mt_cell KE.out (j := 1) rfl
  have lt1 := st_tid KS.out t ht
  obtain ⟨W3, st3, k3, b3, s3⟩ := bk_fresh (P := Tryz.prog) w2 29 #[.int .i8 0, .int .i64 0, .int .i64 0, .int .i64 0, .int .i64 0, .slice none 0 0, .slice none 0 0, .int .i64 0] #[.int .i8 (s.tid t).st, .int .i64 (s.tid t).pid, .int .i64 (s.tid t).ep, .int .i64 (s.tid t).tm, .int .i64 (s.tid t).th, .slice (a.A t) (s.tid t).ps.length (a.c t), .slice (a.D t) (s.tid t).qs.length (a.e t), .int .i64 (s.tid t).ag] 8 infoCoS rfl rfl (by simp [Value.oneCell'])
  have KC := Lib.hid k3
  have KS3 := Lib.hid (KS.out.below b3 KS.out.lt)
  have KE3 := Lib.hid (KE.out.below b3 KE.out.lt)
  have KR3 := Lib.hid (KR.out.below b3 KR.out.lt)
  have BS3 := Lib.hid (BS.out.trans (b3.mono BS.out.size))
  have OS3 := Lib.hid (show StF W3 (PF w.heap.size s a m A1 D1) s a from fun j hj => ⟨(OS.out j hj).1.up b3, (OS.out j hj).2⟩)
  have Z3 := Lib.hid (show w2.heap.size < W3.heap.size by omega)
  have y0 := mt_cell KE3.out (j := 0) rfl
  have q0 := KC.out.cell 0
  have i1 : (0 : Int) ≤ (t : Int) := by omega
  have i2 : (t : Int) < 3 := by omega
  clear k3 b3 s3 htid
  have xm := st_made KS3.out
  have le3 := mt_load (P := Tryz.prog) KE3.out
  have lc := bk_load (P := Tryz.prog) 8 KC.out rfl
  have CA := Lib.hid (HCA.out W3 (OS3.out t ht).1 (H1.out.up BS3.out))
  clear hk hn hd hmd htn
  go_wp2_with fail
  refine CA.out.mono ?_
  rintro e w4 ⟨A5, D5, c5, e5, rfl, r5, b5, off5⟩
  obtain ⟨W5, st5, k5, b6, s5⟩ := bk_fresh (P := Tryz.prog) w4 29 #[.int .i8 0, .int .i64 0, .int .i64 0, .int .i64 0, .int .i64 0, .slice none 0 0, .slice none 0 0, .int .i64 0] #[.int .i8 d.st, .int .i64 d.pid, .int .i64 d.ep, .int .i64 d.tm, .int .i64 d.th, .slice A5 d.ps.length c5, .slice D5 d.qs.length e5, .int .i64 d.ag] 8 infoCoS rfl rfl (by simp [Value.oneCell'])
  have HNO := Lib.hid (fun b (hp : PF w.heap.size s a m A1 D1 b) => off5 b (by have := Z2.out; have := Z3.out; have := hp.1; omega) ((OS3.out t ht).2 b hp).1 ((OS3.out t ht).2 b hp).2 hp.2.2.1 hp.2.2.2)
  have bb : Below W3.heap.size W3 W5 := b5.trans (b6.mono b5.size)
  have KC5 := Lib.hid (KC.out.below bb KC.out.lt)
  have KD5 := Lib.hid k5
  have KE5 := Lib.hid (KE3.out.below bb KE3.out.lt)
  have KR5 := Lib.hid (KR3.out.below bb KR3.out.lt)
  have KS5 := Lib.hid (KS3.out.below bb KS3.out.lt)
  have BS5 := Lib.hid (BS3.out.trans (bb.mono BS3.out.size))
  have R5 := Lib.hid (show CoR W5 W5.heap.size d A5 D5 from r5.up b6)
  have ZD := Lib.hid (show w2.heap.size < w4.heap.size ∧ w.heap.size + 3 ≤ w2.heap.size by have h1 := Z3.out; have h2 := b5.size; have h3 := Z2.out; omega)
  clear k5 b6 s5 r5 b5 off5 bb lc le3 xm x1 lt1 x0
  clear y0 q0
  have x5 : W5.cell? ⟨w.heap.size + 1, 1, none⟩ = some (.int .i64 (t : Int)) := by rw [← HTI.out]; exact mt_cell KE5.out (j := 1) rfl
  have ld5 := bk_load (P := Tryz.prog) 8 KD5.out rfl
  obtain ⟨W6, st6, k6, fb6, fh6, fs6⟩ := st_mkput KS5.out t ht d A5 D5 c5 e5
  have K6 := Lib.hid k6
  have bs6 := fb6 w.heap.size w (Nat.le_refl _) BS5.out
  have OS6 := Lib.hid (show StF W6 (PF w.heap.size s a m A1 D1) (s.put t d) (a.put t A5 D5 c5 e5) from ((StF.of H.out bs6 bs6.size).gr (s' := s) (fun _ _ => rfl)).put ((R5.out.keepB (HNO.out _ HP0.out).1 (HNO.out _ HP0.out).2 ((But.one fh6 fs6)).keep ((But.one fh6 fs6)).size)) HNO.out)
  have BS6 := Lib.hid bs6
  have KR6 := Lib.hid (KR5.out.but (by omega) (But.one fh6 fs6))
  clear k6 fb6 fh6 fs6 bs6
  have u6 := KC5.out.cell 6
  have u0 := KC5.out.cell 0
  have v0 := mt_cell KE5.out (j := 0) rfl
  have MY := Lib.hid (rMayS_any (s.put t d) (a.put t A5 D5 c5 e5) W6.heap.size W6 OS6.out.r (Nat.le_refl _) (HSB.out.put (may_stR (HDM.out (by simp)))))
  have lz := st_load K6.out
  cases hmt : mayS (s.put t d)
  · rw [hmt] at MY
    have HE := Lib.hid (show nextE s m = 2 by rw [HNX.out.1, hmt]; rfl)
    have HT := Lib.hid (show nextS s m = sta00 by rw [HNX.out.2, hmt]; rfl)
    clear hmt
    go_wp2_with fail
    go_loopg [9] 1 (fun mm y wq => y = .int .i64 0 ∧ mm = 1 ∧ wq = W5)
    case atStart => exact ⟨rfl, rfl, rfl⟩
    obtain ⟨rfl, hmm, rfl⟩ := hrel
    clear hmm
    go_wp2_with fail
    refine MY.out.mono ?_
    rintro e w7 ⟨rfl, b7⟩
    clear lz
    obtain ⟨W9, st9, k9, fb9, fh9, fs9⟩ := bk_store (P := Tryz.prog) (ty := 34) (cs := stX sta00 sad0) 31 (KR6.out.below b7 KR6.out.lt) infoSta rfl (stX_size ..) (stX_one ..)
    have K9 := Lib.hid k9
    have B9 := Lib.hid (fb9 w.heap.size w (by omega) (BS6.out.trans (b7.mono BS6.out.size)))
    clear k9 fb9 fh9 fs9
    clear b7
    go_wp2_with fail
    refine bodyPost_ret (v := .tuple #[.agg (stX sta00 sad0), .int .i64 2]) (rnext_ret _ _ _ (w.heap.size + 1 + 1) _ rfl rfl K9.out (stX_size ..)) rfl ?_
    rw [HT.out, HE.out]
    exact ⟨sad0, rfl, sta00_R _ _, B9.out, fun _ _ _ _ _ _ _ => ⟨fun h => absurd h (Nat.lt_irrefl 0), fun h => absurd h (Nat.lt_irrefl 0)⟩⟩
  · rw [hmt] at MY
    have HE := Lib.hid (show nextE s m = 0 by rw [HNX.out.1, hmt]; rfl)
    have HT := Lib.hid (show nextS s m = (s.put t d) by rw [HNX.out.2, hmt]; rfl)
    clear hmt
    go_wp2_with fail
    go_loopg [9] 1 (fun mm y wq => y = .int .i64 0 ∧ mm = 1 ∧ wq = W5)
    case atStart => exact ⟨rfl, rfl, rfl⟩
    obtain ⟨rfl, hmm, rfl⟩ := hrel
    clear hmm
    go_wp2_with fail
    refine MY.out.mono ?_
    rintro e w7 ⟨rfl, b7⟩
    have KS7 := Lib.hid (K6.out.below b7 K6.out.lt)
    have KR7 := Lib.hid (KR6.out.below b7 KR6.out.lt)
    have BS7 := Lib.hid (BS6.out.trans (b7.mono BS6.out.size))
    have OS7 := Lib.hid (show StF w7 (PF w.heap.size s a m A1 D1) (s.put t d) (a.put t A5 D5 c5 e5) from fun j hj => ⟨(OS6.out j hj).1.up b7, (OS6.out j hj).2⟩)
    clear lz b7
    have lo := st_load KS7.out
    obtain ⟨W9, st9, k9, fb9, fh9, fs9⟩ := bk_store (P := Tryz.prog) (ty := 34) (cs := stX (s.put t d) (a.put t A5 D5 c5 e5)) 31 KR7.out infoSta rfl (stX_size ..) (stX_one ..)
    have K9 := Lib.hid k9
    have B9 := Lib.hid (fb9 w.heap.size w (by omega) BS7.out)
    have O9 := Lib.hid (StF.but OS7.out (b := w.heap.size + 1 + 1) HP2.out (But.one fh9 fs9))
    clear k9 fb9 fh9 fs9
    go_wp2_with fail
    refine bodyPost_ret (v := .tuple #[.agg (stX (s.put t d) (a.put t A5 D5 c5 e5)), .int .i64 0]) (rnext_ret _ _ _ (w.heap.size + 1 + 1) _ rfl rfl K9.out (stX_size ..)) rfl ?_
    rw [HT.out, HE.out]
    exact ⟨_, rfl, O9.out.r, B9.out, fun b hb h1 h2 h3 k hk => (O9.out k hk).2 b ⟨by omega, h1, h2, h3⟩⟩
set_option maxRecDepth 100000 in
set_option maxHeartbeats 8000000 in
theorem rNext_mn3z (s : Sta) (a : Sad) (m : Mt) (A1 D1 : Option Addr) (c1 e1 : Nat) (w : World) (h : StR w w.heap.size s a) (h1 : CoR w w.heap.size m.c A1 D1) (hb : StB s) (h8 : -128 ≤ m.c.st) (h9 : m.c.st ≤ 127) (hms : mayS s = true) (hmm : mayM m = true) (t : Nat) (ht : t < 3) (htid : m.tid = (t : Int)) (hk : ¬ (m.kd = 0 ∨ m.kd = 5 ∨ m.kd = 7)) (hE : moveE (s.tid t) m s.made = 0) (hfr : ¬ (m.kd = 1 ∧ (s.tid t).st = 0)) (k4 : m.kd = 4) (k3 : ¬ (s.tid t).st = 3) (hq : (s.tid t).qs.length = 0) :
    Calls Tryz.prog 37 #[.agg (stX s a), .agg (mtX m A1 D1 c1 e1)] w (NxD s a m A1 D1 (nextS s m) (nextE s m) w) := by
  obtain ⟨W0, hW0⟩ : ∃ W0, W0 = ((w.alloc (.cells (stX s a) 34)).alloc (.cells (mtX m A1 D1 c1 e1) 42)).alloc (.cells #[.int .i64 0, .int .i8 0, .int .i64 0, .int .i64 0, .int .i64 0, .int .i64 0, .slice none 0 0, .slice none 0 0, .int .i64 0, .int .i8 0, .int .i64 0, .int .i64 0, .int .i64 0, .int .i64 0, .slice none 0 0, .slice none 0 0, .int .i64 0, .int .i8 0, .int .i64 0, .int .i64 0, .int .i64 0, .int .i64 0, .slice none 0 0, .slice none 0 0, .int .i64 0, .int .i64 0, .int .i64 0, .int .i64 0, .int .i64 0, .int .i64 0, .int .i64 0] 34) := ⟨_, rfl⟩
  have s0 : W0.heap.size = w.heap.size + 1 + 1 + 1 := by rw [hW0]; simp
  have B0 : Below w.heap.size w W0 := by rw [hW0]; exact bal (bal (bal (Below.refl _ _) _) _) _
  have K1 : Blk W0 w.heap.size 34 (stX s a) := by rw [hW0]; exact ((Blk.new w 34 (stX s a)).alloc _).alloc _
  have K2 : Blk W0 (w.heap.size + 1) 42 (mtX m A1 D1 c1 e1) := by rw [hW0]; exact (bk_new _ 42 _ (by simp)).alloc _
  have K3 : Blk W0 (w.heap.size + 1 + 1) 34 #[.int .i64 0, .int .i8 0, .int .i64 0, .int .i64 0, .int .i64 0, .int .i64 0, .slice none 0 0, .slice none 0 0, .int .i64 0, .int .i8 0, .int .i64 0, .int .i64 0, .int .i64 0, .int .i64 0, .slice none 0 0, .slice none 0 0, .int .i64 0, .int .i8 0, .int .i64 0, .int .i64 0, .int .i64 0, .int .i64 0, .slice none 0 0, .slice none 0 0, .int .i64 0, .int .i64 0, .int .i64 0, .int .i64 0, .int .i64 0, .int .i64 0, .int .i64 0] := by rw [hW0]; exact bk_new _ 34 _ (by simp)
  have HW := Lib.hid hW0
  have HS := Lib.hid s0
  have HB := Lib.hid B0
  have HK1 := Lib.hid K1
  have HK2 := Lib.hid K2
  have HK3 := Lib.hid K3
  have H := Lib.hid h
  have H1 := Lib.hid h1
  have HP0 := Lib.hid (PF.own (b := w.heap.size) h h1 (by omega) (by omega))
  have HP2 := Lib.hid (PF.own (b := w.heap.size + 1 + 1) h h1 (by omega) (by omega))
  have HSB := Lib.hid hb
  have l1 := st_load K1
  have bd : ∀ W, (Instr.build 34 #[]).run Tryz.prog W = .ok (.agg (stX sta00 sad0)) W := fun W => run_build W 34 _ _ (by kernel_rfl)
  have MS := Lib.hid (rMayS_any s a w.heap.size W0 (h.below B0) B0.size hb)
  have MM := Lib.hid (fun W (hb : Below W0.heap.size W0 W) => rMayM_all m A1 D1 c1 e1 w.heap.size W (h1.below (B0.trans (hb.mono B0.size))) (Nat.le_trans B0.size hb.size) h8 h9)
  have htn : m.tid.toNat = t := by rw [htid]; rfl
  have k0 : (m.kd == 0) = false := by simp; omega
  have k5 : (m.kd == 5) = false := by simp; omega
  have k7 : (m.kd == 7) = false := by simp; omega
  have hmd := ((mayS_iff s).1 hms)
  have HMD := Lib.hid (And.intro hmd.1 hmd.2.1)
  obtain ⟨n, hn⟩ : ∃ n, moveE (s.tid t) m s.made = n := ⟨_, rfl⟩
  obtain ⟨d, hd⟩ : ∃ d, moveC (s.tid t) m s.made = d := ⟨_, rfl⟩
  have hnm := next_m hms hmm hk (by rw [htn]; exact hfr)
  rw [htn, hn, hd] at hnm
  rw [hn] at hE
  have HDM := Lib.hid (show n = 0 → mayB d = true from fun h => by rw [← hd]; exact moveC_may ((okT_iff s t).1 (hmd.2.2.1 t ht)).1 hmm hk (by rw [hn]; exact h))
  have HCA := Lib.hid (fun W (hc : CoR W W.heap.size (s.tid t) (a.A t) (a.D t)) (hmc : CoR W W.heap.size m.c A1 D1) => show Calls Tryz.prog 66 #[.agg #[.int .i8 (s.tid t).st, .int .i64 (s.tid t).pid, .int .i64 (s.tid t).ep, .int .i64 (s.tid t).tm, .int .i64 (s.tid t).th, .slice (a.A t) (s.tid t).ps.length (a.c t), .slice (a.D t) (s.tid t).qs.length (a.e t), .int .i64 (s.tid t).ag], .agg (mtX m A1 D1 c1 e1), .int .i64 s.made] W (RmP (s.tid t) (a.A t) (a.D t) m A1 D1 d n W) by
    rw [← hd, ← hn]
    exact rmove_any (s.tid t) (a.A t) (a.D t) (a.c t) (a.e t) m A1 D1 c1 e1 s.made W hc hmc (hb t ht).1 (hb t ht).2 hmd.1 hmd.2.1)
  have fe1 : (m.kd == 1) = false := by simp; omega
  have fe4 : (m.kd == 4) = true := by rw [k4]; rfl
  have fe3 : ((s.tid t).st == 3) = false := by simpa using k3
  have dq : decide ((0 : Int) < (((s.tid t).qs.length : Nat) : Int)) = false := decide_eq_false (by omega)
  have dqn : decide (0 < (s.tid t).qs.length) = false := decide_eq_false (by omega)
  have hcs : (if m.kd = 4 ∧ (s.tid t).st = 3 then (s.tid t).qs else []) = ([] : List Pd) := by
    by_cases h : m.kd = 4 ∧ (s.tid t).st = 3
    · rw [if_pos h]; exact absurd h.2 k3
    · rw [if_neg h]
  rw [hcs] at hnm
  have HNX := Lib.hid (show nextE s m = (if mayS (s.put t d) = true then 0 else 2) ∧ nextS s m = if mayS (s.put t d) = true then s.put t d else sta00 by
    have hts : toS s m = s.put t d := hnm.2
    have hne : nextE s m = if mayS (s.put t d) = true then 0 else 2 := by rw [hnm.1, if_neg (by rw [hE]; simp), hts]
    refine ⟨hne, ?_⟩
    unfold nextS
    rw [hne, hts]
    by_cases h : mayS (s.put t d) = true
    · rw [if_pos h, if_pos h]; rfl
    · rw [if_neg h, if_neg h]; rfl)
  clear hnm hcs
  subst hE
  clear hfr hq k4 k3
  rw [hms] at MS
  rw [hmm] at MM
  clear hW0 s0 B0 K1 K2 K3 h h1 hb h8 h9 hms hmm
  go_enter Tryz.func37, Tryz.ntmps37
  go_upto_region 1 with (fail)
  rw [← HW.out]
  go_wp2_with fail
  refine MS.out.mono ?_
  rintro e w1 ⟨rfl, b1⟩
  have l2 := mt_load (P := Tryz.prog) (HK2.out.below b1 HK2.out.lt)
  have B1 := Lib.hid b1
  clear b1 l1
  go_wp2_with fail
  refine (MM.out _ B1.out).mono ?_
  rintro e w2 ⟨rfl, b2⟩
  have B2 := Lib.hid (B1.out.trans (b2.mono B1.out.size))
  have KS := Lib.hid (HK1.out.below B2.out HK1.out.lt)
  have KE := Lib.hid (HK2.out.below B2.out HK2.out.lt)
  have KR := Lib.hid (HK3.out.below B2.out HK3.out.lt)
  have BS := Lib.hid (HB.out.trans (B2.out.mono HB.out.size))
  have OS := Lib.hid (StF.of (m := m) (A := A1) (D := D1) H.out BS.out BS.out.size)
  have Z2 := Lib.hid (show w.heap.size + 1 + 1 + 1 ≤ w2.heap.size by have := HS.out; have := B2.out.size; omega)
  have x0 := mt_cell KE.out (j := 0) rfl
  clear b2 l2
  have HTI := Lib.hid htid
  have x1 : w2.cell? ⟨w.heap.size + 1, 1, none⟩ = some (.int .i64 (t : Int)) := by rw [← HTI.out]; exact mt_cell KE.out (j := 1) rfl
  have lt1 := st_tid KS.out t ht
  obtain ⟨W3, st3, k3, b3, s3⟩ := bk_fresh (P := Tryz.prog) w2 29 #[.int .i8 0, .int .i64 0, .int .i64 0, .int .i64 0, .int .i64 0, .slice none 0 0, .slice none 0 0, .int .i64 0] #[.int .i8 (s.tid t).st, .int .i64 (s.tid t).pid, .int .i64 (s.tid t).ep, .int .i64 (s.tid t).tm, .int .i64 (s.tid t).th, .slice (a.A t) (s.tid t).ps.length (a.c t), .slice (a.D t) (s.tid t).qs.length (a.e t), .int .i64 (s.tid t).ag] 8 infoCoS rfl rfl (by simp [Value.oneCell'])
  have KC := Lib.hid k3
  have KS3 := Lib.hid (KS.out.below b3 KS.out.lt)
  have KE3 := Lib.hid (KE.out.below b3 KE.out.lt)
  have KR3 := Lib.hid (KR.out.below b3 KR.out.lt)
  have BS3 := Lib.hid (BS.out.trans (b3.mono BS.out.size))
  have OS3 := Lib.hid (show StF W3 (PF w.heap.size s a m A1 D1) s a from fun j hj => ⟨(OS.out j hj).1.up b3, (OS.out j hj).2⟩)
  have Z3 := Lib.hid (show w2.heap.size < W3.heap.size by omega)
  have y0 := mt_cell KE3.out (j := 0) rfl
  have q0 := KC.out.cell 0
  have i1 : (0 : Int) ≤ (t : Int) := by omega
  have i2 : (t : Int) < 3 := by omega
  clear k3 b3 s3 htid
  have xm := st_made KS3.out
  have le3 := mt_load (P := Tryz.prog) KE3.out
  have lc := bk_load (P := Tryz.prog) 8 KC.out rfl
  have CA := Lib.hid (HCA.out W3 (OS3.out t ht).1 (H1.out.up BS3.out))
  clear hk hn hd hmd htn
  go_wp2_with fail
  refine CA.out.mono ?_
  rintro e w4 ⟨A5, D5, c5, e5, rfl, r5, b5, off5⟩
  obtain ⟨W5, st5, k5, b6, s5⟩ := bk_fresh (P := Tryz.prog) w4 29 #[.int .i8 0, .int .i64 0, .int .i64 0, .int .i64 0, .int .i64 0, .slice none 0 0, .slice none 0 0, .int .i64 0] #[.int .i8 d.st, .int .i64 d.pid, .int .i64 d.ep, .int .i64 d.tm, .int .i64 d.th, .slice A5 d.ps.length c5, .slice D5 d.qs.length e5, .int .i64 d.ag] 8 infoCoS rfl rfl (by simp [Value.oneCell'])
  have HNO := Lib.hid (fun b (hp : PF w.heap.size s a m A1 D1 b) => off5 b (by have := Z2.out; have := Z3.out; have := hp.1; omega) ((OS3.out t ht).2 b hp).1 ((OS3.out t ht).2 b hp).2 hp.2.2.1 hp.2.2.2)
  have bb : Below W3.heap.size W3 W5 := b5.trans (b6.mono b5.size)
  have KC5 := Lib.hid (KC.out.below bb KC.out.lt)
  have KD5 := Lib.hid k5
  have KE5 := Lib.hid (KE3.out.below bb KE3.out.lt)
  have KR5 := Lib.hid (KR3.out.below bb KR3.out.lt)
  have KS5 := Lib.hid (KS3.out.below bb KS3.out.lt)
  have BS5 := Lib.hid (BS3.out.trans (bb.mono BS3.out.size))
  have R5 := Lib.hid (show CoR W5 W5.heap.size d A5 D5 from r5.up b6)
  have ZD := Lib.hid (show w2.heap.size < w4.heap.size ∧ w.heap.size + 3 ≤ w2.heap.size by have h1 := Z3.out; have h2 := b5.size; have h3 := Z2.out; omega)
  clear k5 b6 s5 r5 b5 off5 bb lc le3 xm x1 lt1 x0
  clear y0 q0
  have x5 : W5.cell? ⟨w.heap.size + 1, 1, none⟩ = some (.int .i64 (t : Int)) := by rw [← HTI.out]; exact mt_cell KE5.out (j := 1) rfl
  have ld5 := bk_load (P := Tryz.prog) 8 KD5.out rfl
  obtain ⟨W6, st6, k6, fb6, fh6, fs6⟩ := st_mkput KS5.out t ht d A5 D5 c5 e5
  have K6 := Lib.hid k6
  have bs6 := fb6 w.heap.size w (Nat.le_refl _) BS5.out
  have OS6 := Lib.hid (show StF W6 (PF w.heap.size s a m A1 D1) (s.put t d) (a.put t A5 D5 c5 e5) from ((StF.of H.out bs6 bs6.size).gr (s' := s) (fun _ _ => rfl)).put ((R5.out.keepB (HNO.out _ HP0.out).1 (HNO.out _ HP0.out).2 ((But.one fh6 fs6)).keep ((But.one fh6 fs6)).size)) HNO.out)
  have BS6 := Lib.hid bs6
  have KR6 := Lib.hid (KR5.out.but (by omega) (But.one fh6 fs6))
  clear k6 fb6 fh6 fs6 bs6
  have u6 := KC5.out.cell 6
  have u0 := KC5.out.cell 0
  have v0 := mt_cell KE5.out (j := 0) rfl
  have MY := Lib.hid (rMayS_any (s.put t d) (a.put t A5 D5 c5 e5) W6.heap.size W6 OS6.out.r (Nat.le_refl _) (HSB.out.put (may_stR (HDM.out (by simp)))))
  have lz := st_load K6.out
  cases hmt : mayS (s.put t d)
  · rw [hmt] at MY
    have HE := Lib.hid (show nextE s m = 2 by rw [HNX.out.1, hmt]; rfl)
    have HT := Lib.hid (show nextS s m = sta00 by rw [HNX.out.2, hmt]; rfl)
    clear hmt
    go_wp2_with fail
    go_loopg [9] 1 (fun mm y wq => y = .int .i64 0 ∧ mm = 1 ∧ wq = W5)
    case atStart => exact ⟨rfl, rfl, rfl⟩
    obtain ⟨rfl, hmm, rfl⟩ := hrel
    clear hmm
    go_wp2_with fail
    refine MY.out.mono ?_
    rintro e w7 ⟨rfl, b7⟩
    clear lz
    obtain ⟨W9, st9, k9, fb9, fh9, fs9⟩ := bk_store (P := Tryz.prog) (ty := 34) (cs := stX sta00 sad0) 31 (KR6.out.below b7 KR6.out.lt) infoSta rfl (stX_size ..) (stX_one ..)
    have K9 := Lib.hid k9
    have B9 := Lib.hid (fb9 w.heap.size w (by omega) (BS6.out.trans (b7.mono BS6.out.size)))
    clear k9 fb9 fh9 fs9
    clear b7
    go_wp2_with fail
    refine bodyPost_ret (v := .tuple #[.agg (stX sta00 sad0), .int .i64 2]) (rnext_ret _ _ _ (w.heap.size + 1 + 1) _ rfl rfl K9.out (stX_size ..)) rfl ?_
    rw [HT.out, HE.out]
    exact ⟨sad0, rfl, sta00_R _ _, B9.out, fun _ _ _ _ _ _ _ => ⟨fun h => absurd h (Nat.lt_irrefl 0), fun h => absurd h (Nat.lt_irrefl 0)⟩⟩
  · rw [hmt] at MY
    have HE := Lib.hid (show nextE s m = 0 by rw [HNX.out.1, hmt]; rfl)
    have HT := Lib.hid (show nextS s m = (s.put t d) by rw [HNX.out.2, hmt]; rfl)
    clear hmt
    go_wp2_with fail
    go_loopg [9] 1 (fun mm y wq => y = .int .i64 0 ∧ mm = 1 ∧ wq = W5)
    case atStart => exact ⟨rfl, rfl, rfl⟩
    obtain ⟨rfl, hmm, rfl⟩ := hrel
    clear hmm
    go_wp2_with fail
    refine MY.out.mono ?_
    rintro e w7 ⟨rfl, b7⟩
    have KS7 := Lib.hid (K6.out.below b7 K6.out.lt)
    have KR7 := Lib.hid (KR6.out.below b7 KR6.out.lt)
    have BS7 := Lib.hid (BS6.out.trans (b7.mono BS6.out.size))
    have OS7 := Lib.hid (show StF w7 (PF w.heap.size s a m A1 D1) (s.put t d) (a.put t A5 D5 c5 e5) from fun j hj => ⟨(OS6.out j hj).1.up b7, (OS6.out j hj).2⟩)
    clear lz b7
    have lo := st_load KS7.out
    obtain ⟨W9, st9, k9, fb9, fh9, fs9⟩ := bk_store (P := Tryz.prog) (ty := 34) (cs := stX (s.put t d) (a.put t A5 D5 c5 e5)) 31 KR7.out infoSta rfl (stX_size ..) (stX_one ..)
    have K9 := Lib.hid k9
    have B9 := Lib.hid (fb9 w.heap.size w (by omega) BS7.out)
    have O9 := Lib.hid (StF.but OS7.out (b := w.heap.size + 1 + 1) HP2.out (But.one fh9 fs9))
    clear k9 fb9 fh9 fs9
    go_wp2_with fail
    refine bodyPost_ret (v := .tuple #[.agg (stX (s.put t d) (a.put t A5 D5 c5 e5)), .int .i64 0]) (rnext_ret _ _ _ (w.heap.size + 1 + 1) _ rfl rfl K9.out (stX_size ..)) rfl ?_
    rw [HT.out, HE.out]
    exact ⟨_, rfl, O9.out.r, B9.out, fun b hb h1 h2 h3 k hk => (O9.out k hk).2 b ⟨by omega, h1, h2, h3⟩⟩
set_option maxRecDepth 100000 in
set_option maxHeartbeats 8000000 in
theorem rNext_mn3p (s : Sta) (a : Sad) (m : Mt) (A1 D1 : Option Addr) (c1 e1 : Nat) (w : World) (h : StR w w.heap.size s a) (h1 : CoR w w.heap.size m.c A1 D1) (hb : StB s) (h8 : -128 ≤ m.c.st) (h9 : m.c.st ≤ 127) (hms : mayS s = true) (hmm : mayM m = true) (t : Nat) (ht : t < 3) (htid : m.tid = (t : Int)) (hk : ¬ (m.kd = 0 ∨ m.kd = 5 ∨ m.kd = 7)) (hE : moveE (s.tid t) m s.made = 0) (hfr : ¬ (m.kd = 1 ∧ (s.tid t).st = 0)) (k4 : m.kd = 4) (k3 : ¬ (s.tid t).st = 3) (hq : 0 < (s.tid t).qs.length) :
    Calls Tryz.prog 37 #[.agg (stX s a), .agg (mtX m A1 D1 c1 e1)] w (NxD s a m A1 D1 (nextS s m) (nextE s m) w) := by
  obtain ⟨W0, hW0⟩ : ∃ W0, W0 = ((w.alloc (.cells (stX s a) 34)).alloc (.cells (mtX m A1 D1 c1 e1) 42)).alloc (.cells #[.int .i64 0, .int .i8 0, .int .i64 0, .int .i64 0, .int .i64 0, .int .i64 0, .slice none 0 0, .slice none 0 0, .int .i64 0, .int .i8 0, .int .i64 0, .int .i64 0, .int .i64 0, .int .i64 0, .slice none 0 0, .slice none 0 0, .int .i64 0, .int .i8 0, .int .i64 0, .int .i64 0, .int .i64 0, .int .i64 0, .slice none 0 0, .slice none 0 0, .int .i64 0, .int .i64 0, .int .i64 0, .int .i64 0, .int .i64 0, .int .i64 0, .int .i64 0] 34) := ⟨_, rfl⟩
  have s0 : W0.heap.size = w.heap.size + 1 + 1 + 1 := by rw [hW0]; simp
  have B0 : Below w.heap.size w W0 := by rw [hW0]; exact bal (bal (bal (Below.refl _ _) _) _) _
  have K1 : Blk W0 w.heap.size 34 (stX s a) := by rw [hW0]; exact ((Blk.new w 34 (stX s a)).alloc _).alloc _
  have K2 : Blk W0 (w.heap.size + 1) 42 (mtX m A1 D1 c1 e1) := by rw [hW0]; exact (bk_new _ 42 _ (by simp)).alloc _
  have K3 : Blk W0 (w.heap.size + 1 + 1) 34 #[.int .i64 0, .int .i8 0, .int .i64 0, .int .i64 0, .int .i64 0, .int .i64 0, .slice none 0 0, .slice none 0 0, .int .i64 0, .int .i8 0, .int .i64 0, .int .i64 0, .int .i64 0, .int .i64 0, .slice none 0 0, .slice none 0 0, .int .i64 0, .int .i8 0, .int .i64 0, .int .i64 0, .int .i64 0, .int .i64 0, .slice none 0 0, .slice none 0 0, .int .i64 0, .int .i64 0, .int .i64 0, .int .i64 0, .int .i64 0, .int .i64 0, .int .i64 0] := by rw [hW0]; exact bk_new _ 34 _ (by simp)
  have HW := Lib.hid hW0
  have HS := Lib.hid s0
  have HB := Lib.hid B0
  have HK1 := Lib.hid K1
  have HK2 := Lib.hid K2
  have HK3 := Lib.hid K3
  have H := Lib.hid h
  have H1 := Lib.hid h1
  have HP0 := Lib.hid (PF.own (b := w.heap.size) h h1 (by omega) (by omega))
  have HP2 := Lib.hid (PF.own (b := w.heap.size + 1 + 1) h h1 (by omega) (by omega))
  have HSB := Lib.hid hb
  have l1 := st_load K1
  have bd : ∀ W, (Instr.build 34 #[]).run Tryz.prog W = .ok (.agg (stX sta00 sad0)) W := fun W => run_build W 34 _ _ (by kernel_rfl)
  have MS := Lib.hid (rMayS_any s a w.heap.size W0 (h.below B0) B0.size hb)
  have MM := Lib.hid (fun W (hb : Below W0.heap.size W0 W) => rMayM_all m A1 D1 c1 e1 w.heap.size W (h1.below (B0.trans (hb.mono B0.size))) (Nat.le_trans B0.size hb.size) h8 h9)
  have htn : m.tid.toNat = t := by rw [htid]; rfl
  have k0 : (m.kd == 0) = false := by simp; omega
  have k5 : (m.kd == 5) = false := by simp; omega
  have k7 : (m.kd == 7) = false := by simp; omega
  have hmd := ((mayS_iff s).1 hms)
  have HMD := Lib.hid (And.intro hmd.1 hmd.2.1)
  obtain ⟨n, hn⟩ : ∃ n, moveE (s.tid t) m s.made = n := ⟨_, rfl⟩
  obtain ⟨d, hd⟩ : ∃ d, moveC (s.tid t) m s.made = d := ⟨_, rfl⟩
  have hnm := next_m hms hmm hk (by rw [htn]; exact hfr)
  rw [htn, hn, hd] at hnm
  rw [hn] at hE
  have HDM := Lib.hid (show n = 0 → mayB d = true from fun h => by rw [← hd]; exact moveC_may ((okT_iff s t).1 (hmd.2.2.1 t ht)).1 hmm hk (by rw [hn]; exact h))
  have HCA := Lib.hid (fun W (hc : CoR W W.heap.size (s.tid t) (a.A t) (a.D t)) (hmc : CoR W W.heap.size m.c A1 D1) => show Calls Tryz.prog 66 #[.agg #[.int .i8 (s.tid t).st, .int .i64 (s.tid t).pid, .int .i64 (s.tid t).ep, .int .i64 (s.tid t).tm, .int .i64 (s.tid t).th, .slice (a.A t) (s.tid t).ps.length (a.c t), .slice (a.D t) (s.tid t).qs.length (a.e t), .int .i64 (s.tid t).ag], .agg (mtX m A1 D1 c1 e1), .int .i64 s.made] W (RmP (s.tid t) (a.A t) (a.D t) m A1 D1 d n W) by
    rw [← hd, ← hn]
    exact rmove_any (s.tid t) (a.A t) (a.D t) (a.c t) (a.e t) m A1 D1 c1 e1 s.made W hc hmc (hb t ht).1 (hb t ht).2 hmd.1 hmd.2.1)
  have fe1 : (m.kd == 1) = false := by simp; omega
  have fe4 : (m.kd == 4) = true := by rw [k4]; rfl
  have fe3 : ((s.tid t).st == 3) = false := by simpa using k3
  have dq : decide ((0 : Int) < (((s.tid t).qs.length : Nat) : Int)) = true := decide_eq_true (by omega)
  have dqn : decide (0 < (s.tid t).qs.length) = true := decide_eq_true (by omega)
  have hcs : (if m.kd = 4 ∧ (s.tid t).st = 3 then (s.tid t).qs else []) = ([] : List Pd) := by
    by_cases h : m.kd = 4 ∧ (s.tid t).st = 3
    · rw [if_pos h]; exact absurd h.2 k3
    · rw [if_neg h]
  rw [hcs] at hnm
  have HNX := Lib.hid (show nextE s m = (if mayS (s.put t d) = true then 0 else 2) ∧ nextS s m = if mayS (s.put t d) = true then s.put t d else sta00 by
    have hts : toS s m = s.put t d := hnm.2
    have hne : nextE s m = if mayS (s.put t d) = true then 0 else 2 := by rw [hnm.1, if_neg (by rw [hE]; simp), hts]
    refine ⟨hne, ?_⟩
    unfold nextS
    rw [hne, hts]
    by_cases h : mayS (s.put t d) = true
    · rw [if_pos h, if_pos h]; rfl
    · rw [if_neg h, if_neg h]; rfl)
  clear hnm hcs
  subst hE
  clear hfr hq k4 k3
  rw [hms] at MS
  rw [hmm] at MM
  clear hW0 s0 B0 K1 K2 K3 h h1 hb h8 h9 hms hmm
  go_enter Tryz.func37, Tryz.ntmps37
  go_upto_region 1 with (fail)
  rw [← HW.out]
  go_wp2_with fail
  refine MS.out.mono ?_
  rintro e w1 ⟨rfl, b1⟩
  have l2 := mt_load (P := Tryz.prog) (HK2.out.below b1 HK2.out.lt)
  have B1 := Lib.hid b1
  clear b1 l1
  go_wp2_with fail
  refine (MM.out _ B1.out).mono ?_
  rintro e w2 ⟨rfl, b2⟩
  have B2 := Lib.hid (B1.out.trans (b2.mono B1.out.size))
  have KS := Lib.hid (HK1.out.below B2.out HK1.out.lt)
  have KE := Lib.hid (HK2.out.below B2.out HK2.out.lt)
  have KR := Lib.hid (HK3.out.below B2.out HK3.out.lt)
  have BS := Lib.hid (HB.out.trans (B2.out.mono HB.out.size))
  have OS := Lib.hid (StF.of (m := m) (A := A1) (D := D1) H.out BS.out BS.out.size)
  have Z2 := Lib.hid (show w.heap.size + 1 + 1 + 1 ≤ w2.heap.size by have := HS.out; have := B2.out.size; omega)
  have x0 := mt_cell KE.out (j := 0) rfl
  clear b2 l2
  have HTI := Lib.hid htid
  have x1 : w2.cell? ⟨w.heap.size + 1, 1, none⟩ = some (.int .i64 (t : Int)) := by rw [← HTI.out]; exact mt_cell KE.out (j := 1) rfl
  have lt1 := st_tid KS.out t ht
  obtain ⟨W3, st3, k3, b3, s3⟩ := bk_fresh (P := Tryz.prog) w2 29 #[.int .i8 0, .int .i64 0, .int .i64 0, .int .i64 0, .int .i64 0, .slice none 0 0, .slice none 0 0, .int .i64 0] #[.int .i8 (s.tid t).st, .int .i64 (s.tid t).pid, .int .i64 (s.tid t).ep, .int .i64 (s.tid t).tm, .int .i64 (s.tid t).th, .slice (a.A t) (s.tid t).ps.length (a.c t), .slice (a.D t) (s.tid t).qs.length (a.e t), .int .i64 (s.tid t).ag] 8 infoCoS rfl rfl (by simp [Value.oneCell'])
  have KC := Lib.hid k3
  have KS3 := Lib.hid (KS.out.below b3 KS.out.lt)
  have KE3 := Lib.hid (KE.out.below b3 KE.out.lt)
  have KR3 := Lib.hid (KR.out.below b3 KR.out.lt)
  have BS3 := Lib.hid (BS.out.trans (b3.mono BS.out.size))
  have OS3 := Lib.hid (show StF W3 (PF w.heap.size s a m A1 D1) s a from fun j hj => ⟨(OS.out j hj).1.up b3, (OS.out j hj).2⟩)
  have Z3 := Lib.hid (show w2.heap.size < W3.heap.size by omega)
  have y0 := mt_cell KE3.out (j := 0) rfl
  have q0 := KC.out.cell 0
  have i1 : (0 : Int) ≤ (t : Int) := by omega
  have i2 : (t : Int) < 3 := by omega
  clear k3 b3 s3 htid
  have xm := st_made KS3.out
  have le3 := mt_load (P := Tryz.prog) KE3.out
  have lc := bk_load (P := Tryz.prog) 8 KC.out rfl
  have CA := Lib.hid (HCA.out W3 (OS3.out t ht).1 (H1.out.up BS3.out))
  clear hk hn hd hmd htn
  go_wp2_with fail
  refine CA.out.mono ?_
  rintro e w4 ⟨A5, D5, c5, e5, rfl, r5, b5, off5⟩
  obtain ⟨W5, st5, k5, b6, s5⟩ := bk_fresh (P := Tryz.prog) w4 29 #[.int .i8 0, .int .i64 0, .int .i64 0, .int .i64 0, .int .i64 0, .slice none 0 0, .slice none 0 0, .int .i64 0] #[.int .i8 d.st, .int .i64 d.pid, .int .i64 d.ep, .int .i64 d.tm, .int .i64 d.th, .slice A5 d.ps.length c5, .slice D5 d.qs.length e5, .int .i64 d.ag] 8 infoCoS rfl rfl (by simp [Value.oneCell'])
  have HNO := Lib.hid (fun b (hp : PF w.heap.size s a m A1 D1 b) => off5 b (by have := Z2.out; have := Z3.out; have := hp.1; omega) ((OS3.out t ht).2 b hp).1 ((OS3.out t ht).2 b hp).2 hp.2.2.1 hp.2.2.2)
  have bb : Below W3.heap.size W3 W5 := b5.trans (b6.mono b5.size)
  have KC5 := Lib.hid (KC.out.below bb KC.out.lt)
  have KD5 := Lib.hid k5
  have KE5 := Lib.hid (KE3.out.below bb KE3.out.lt)
  have KR5 := Lib.hid (KR3.out.below bb KR3.out.lt)
  have KS5 := Lib.hid (KS3.out.below bb KS3.out.lt)
  have BS5 := Lib.hid (BS3.out.trans (bb.mono BS3.out.size))
  have R5 := Lib.hid (show CoR W5 W5.heap.size d A5 D5 from r5.up b6)
  have ZD := Lib.hid (show w2.heap.size < w4.heap.size ∧ w.heap.size + 3 ≤ w2.heap.size by have h1 := Z3.out; have h2 := b5.size; have h3 := Z2.out; omega)
  clear k5 b6 s5 r5 b5 off5 bb lc le3 xm x1 lt1 x0
  clear y0 q0
  have x5 : W5.cell? ⟨w.heap.size + 1, 1, none⟩ = some (.int .i64 (t : Int)) := by rw [← HTI.out]; exact mt_cell KE5.out (j := 1) rfl
  have ld5 := bk_load (P := Tryz.prog) 8 KD5.out rfl
  obtain ⟨W6, st6, k6, fb6, fh6, fs6⟩ := st_mkput KS5.out t ht d A5 D5 c5 e5
  have K6 := Lib.hid k6
  have bs6 := fb6 w.heap.size w (Nat.le_refl _) BS5.out
  have OS6 := Lib.hid (show StF W6 (PF w.heap.size s a m A1 D1) (s.put t d) (a.put t A5 D5 c5 e5) from ((StF.of H.out bs6 bs6.size).gr (s' := s) (fun _ _ => rfl)).put ((R5.out.keepB (HNO.out _ HP0.out).1 (HNO.out _ HP0.out).2 ((But.one fh6 fs6)).keep ((But.one fh6 fs6)).size)) HNO.out)
  have BS6 := Lib.hid bs6
  have KR6 := Lib.hid (KR5.out.but (by omega) (But.one fh6 fs6))
  clear k6 fb6 fh6 fs6 bs6
  have u6 := KC5.out.cell 6
  have u0 := KC5.out.cell 0
  have v0 := mt_cell KE5.out (j := 0) rfl
  have MY := Lib.hid (rMayS_any (s.put t d) (a.put t A5 D5 c5 e5) W6.heap.size W6 OS6.out.r (Nat.le_refl _) (HSB.out.put (may_stR (HDM.out (by simp)))))
  have lz := st_load K6.out
  cases hmt : mayS (s.put t d)
  · rw [hmt] at MY
    have HE := Lib.hid (show nextE s m = 2 by rw [HNX.out.1, hmt]; rfl)
    have HT := Lib.hid (show nextS s m = sta00 by rw [HNX.out.2, hmt]; rfl)
    clear hmt
    go_wp2_with fail
    go_loopg [9] 1 (fun mm y wq => y = .int .i64 0 ∧ mm = 1 ∧ wq = W5)
    case atStart => exact ⟨rfl, rfl, rfl⟩
    obtain ⟨rfl, hmm, rfl⟩ := hrel
    clear hmm
    go_wp2_with fail
    refine MY.out.mono ?_
    rintro e w7 ⟨rfl, b7⟩
    clear lz
    obtain ⟨W9, st9, k9, fb9, fh9, fs9⟩ := bk_store (P := Tryz.prog) (ty := 34) (cs := stX sta00 sad0) 31 (KR6.out.below b7 KR6.out.lt) infoSta rfl (stX_size ..) (stX_one ..)
    have K9 := Lib.hid k9
    have B9 := Lib.hid (fb9 w.heap.size w (by omega) (BS6.out.trans (b7.mono BS6.out.size)))
    clear k9 fb9 fh9 fs9
    clear b7
    go_wp2_with fail
    refine bodyPost_ret (v := .tuple #[.agg (stX sta00 sad0), .int .i64 2]) (rnext_ret _ _ _ (w.heap.size + 1 + 1) _ rfl rfl K9.out (stX_size ..)) rfl ?_
    rw [HT.out, HE.out]
    exact ⟨sad0, rfl, sta00_R _ _, B9.out, fun _ _ _ _ _ _ _ => ⟨fun h => absurd h (Nat.lt_irrefl 0), fun h => absurd h (Nat.lt_irrefl 0)⟩⟩
  · rw [hmt] at MY
    have HE := Lib.hid (show nextE s m = 0 by rw [HNX.out.1, hmt]; rfl)
    have HT := Lib.hid (show nextS s m = (s.put t d) by rw [HNX.out.2, hmt]; rfl)
    clear hmt
    go_wp2_with fail
    go_loopg [9] 1 (fun mm y wq => y = .int .i64 0 ∧ mm = 1 ∧ wq = W5)
    case atStart => exact ⟨rfl, rfl, rfl⟩
    obtain ⟨rfl, hmm, rfl⟩ := hrel
    clear hmm
    go_wp2_with fail
    refine MY.out.mono ?_
    rintro e w7 ⟨rfl, b7⟩
    have KS7 := Lib.hid (K6.out.below b7 K6.out.lt)
    have KR7 := Lib.hid (KR6.out.below b7 KR6.out.lt)
    have BS7 := Lib.hid (BS6.out.trans (b7.mono BS6.out.size))
    have OS7 := Lib.hid (show StF w7 (PF w.heap.size s a m A1 D1) (s.put t d) (a.put t A5 D5 c5 e5) from fun j hj => ⟨(OS6.out j hj).1.up b7, (OS6.out j hj).2⟩)
    clear lz b7
    have lo := st_load KS7.out
    obtain ⟨W9, st9, k9, fb9, fh9, fs9⟩ := bk_store (P := Tryz.prog) (ty := 34) (cs := stX (s.put t d) (a.put t A5 D5 c5 e5)) 31 KR7.out infoSta rfl (stX_size ..) (stX_one ..)
    have K9 := Lib.hid k9
    have B9 := Lib.hid (fb9 w.heap.size w (by omega) BS7.out)
    have O9 := Lib.hid (StF.but OS7.out (b := w.heap.size + 1 + 1) HP2.out (But.one fh9 fs9))
    clear k9 fb9 fh9 fs9
    go_wp2_with fail
    refine bodyPost_ret (v := .tuple #[.agg (stX (s.put t d) (a.put t A5 D5 c5 e5)), .int .i64 0]) (rnext_ret _ _ _ (w.heap.size + 1 + 1) _ rfl rfl K9.out (stX_size ..)) rfl ?_
    rw [HT.out, HE.out]
    exact ⟨_, rfl, O9.out.r, B9.out, fun b hb h1 h2 h3 k hk => (O9.out k hk).2 b ⟨by omega, h1, h2, h3⟩⟩
set_option maxRecDepth 100000 in
set_option maxHeartbeats 8000000 in
theorem rNext_mn4z (s : Sta) (a : Sad) (m : Mt) (A1 D1 : Option Addr) (c1 e1 : Nat) (w : World) (h : StR w w.heap.size s a) (h1 : CoR w w.heap.size m.c A1 D1) (hb : StB s) (h8 : -128 ≤ m.c.st) (h9 : m.c.st ≤ 127) (hms : mayS s = true) (hmm : mayM m = true) (t : Nat) (ht : t < 3) (htid : m.tid = (t : Int)) (hk : ¬ (m.kd = 0 ∨ m.kd = 5 ∨ m.kd = 7)) (hE : moveE (s.tid t) m s.made = 0) (hfr : ¬ (m.kd = 1 ∧ (s.tid t).st = 0)) (k4 : m.kd = 4) (k3 : (s.tid t).st = 3) (hq : (s.tid t).qs.length = 0) :
    Calls Tryz.prog 37 #[.agg (stX s a), .agg (mtX m A1 D1 c1 e1)] w (NxD s a m A1 D1 (nextS s m) (nextE s m) w) := by
  obtain ⟨W0, hW0⟩ : ∃ W0, W0 = ((w.alloc (.cells (stX s a) 34)).alloc (.cells (mtX m A1 D1 c1 e1) 42)).alloc (.cells #[.int .i64 0, .int .i8 0, .int .i64 0, .int .i64 0, .int .i64 0, .int .i64 0, .slice none 0 0, .slice none 0 0, .int .i64 0, .int .i8 0, .int .i64 0, .int .i64 0, .int .i64 0, .int .i64 0, .slice none 0 0, .slice none 0 0, .int .i64 0, .int .i8 0, .int .i64 0, .int .i64 0, .int .i64 0, .int .i64 0, .slice none 0 0, .slice none 0 0, .int .i64 0, .int .i64 0, .int .i64 0, .int .i64 0, .int .i64 0, .int .i64 0, .int .i64 0] 34) := ⟨_, rfl⟩
  have s0 : W0.heap.size = w.heap.size + 1 + 1 + 1 := by rw [hW0]; simp
  have B0 : Below w.heap.size w W0 := by rw [hW0]; exact bal (bal (bal (Below.refl _ _) _) _) _
  have K1 : Blk W0 w.heap.size 34 (stX s a) := by rw [hW0]; exact ((Blk.new w 34 (stX s a)).alloc _).alloc _
  have K2 : Blk W0 (w.heap.size + 1) 42 (mtX m A1 D1 c1 e1) := by rw [hW0]; exact (bk_new _ 42 _ (by simp)).alloc _
  have K3 : Blk W0 (w.heap.size + 1 + 1) 34 #[.int .i64 0, .int .i8 0, .int .i64 0, .int .i64 0, .int .i64 0, .int .i64 0, .slice none 0 0, .slice none 0 0, .int .i64 0, .int .i8 0, .int .i64 0, .int .i64 0, .int .i64 0, .int .i64 0, .slice none 0 0, .slice none 0 0, .int .i64 0, .int .i8 0, .int .i64 0, .int .i64 0, .int .i64 0, .int .i64 0, .slice none 0 0, .slice none 0 0, .int .i64 0, .int .i64 0, .int .i64 0, .int .i64 0, .int .i64 0, .int .i64 0, .int .i64 0] := by rw [hW0]; exact bk_new _ 34 _ (by simp)
  have HW := Lib.hid hW0
  have HS := Lib.hid s0
  have HB := Lib.hid B0
  have HK1 := Lib.hid K1
  have HK2 := Lib.hid K2
  have HK3 := Lib.hid K3
  have H := Lib.hid h
  have H1 := Lib.hid h1
  have HP0 := Lib.hid (PF.own (b := w.heap.size) h h1 (by omega) (by omega))
  have HP2 := Lib.hid (PF.own (b := w.heap.size + 1 + 1) h h1 (by omega) (by omega))
  have HSB := Lib.hid hb
  have l1 := st_load K1
  have bd : ∀ W, (Instr.build 34 #[]).run Tryz.prog W = .ok (.agg (stX sta00 sad0)) W := fun W => run_build W 34 _ _ (by kernel_rfl)
  have MS := Lib.hid (rMayS_any s a w.heap.size W0 (h.below B0) B0.size hb)
  have MM := Lib.hid (fun W (hb : Below W0.heap.size W0 W) => rMayM_all m A1 D1 c1 e1 w.heap.size W (h1.below (B0.trans (hb.mono B0.size))) (Nat.le_trans B0.size hb.size) h8 h9)
  have htn : m.tid.toNat = t := by rw [htid]; rfl
  have k0 : (m.kd == 0) = false := by simp; omega
  have k5 : (m.kd == 5) = false := by simp; omega
  have k7 : (m.kd == 7) = false := by simp; omega
  have hmd := ((mayS_iff s).1 hms)
  have HMD := Lib.hid (And.intro hmd.1 hmd.2.1)
  obtain ⟨n, hn⟩ : ∃ n, moveE (s.tid t) m s.made = n := ⟨_, rfl⟩
  obtain ⟨d, hd⟩ : ∃ d, moveC (s.tid t) m s.made = d := ⟨_, rfl⟩
  have hnm := next_m hms hmm hk (by rw [htn]; exact hfr)
  rw [htn, hn, hd] at hnm
  rw [hn] at hE
  have HDM := Lib.hid (show n = 0 → mayB d = true from fun h => by rw [← hd]; exact moveC_may ((okT_iff s t).1 (hmd.2.2.1 t ht)).1 hmm hk (by rw [hn]; exact h))
  have HCA := Lib.hid (fun W (hc : CoR W W.heap.size (s.tid t) (a.A t) (a.D t)) (hmc : CoR W W.heap.size m.c A1 D1) => show Calls Tryz.prog 66 #[.agg #[.int .i8 (s.tid t).st, .int .i64 (s.tid t).pid, .int .i64 (s.tid t).ep, .int .i64 (s.tid t).tm, .int .i64 (s.tid t).th, .slice (a.A t) (s.tid t).ps.length (a.c t), .slice (a.D t) (s.tid t).qs.length (a.e t), .int .i64 (s.tid t).ag], .agg (mtX m A1 D1 c1 e1), .int .i64 s.made] W (RmP (s.tid t) (a.A t) (a.D t) m A1 D1 d n W) by
    rw [← hd, ← hn]
    exact rmove_any (s.tid t) (a.A t) (a.D t) (a.c t) (a.e t) m A1 D1 c1 e1 s.made W hc hmc (hb t ht).1 (hb t ht).2 hmd.1 hmd.2.1)
  have fe1 : (m.kd == 1) = false := by simp; omega
  have fe4 : (m.kd == 4) = true := by rw [k4]; rfl
  have fe3 : ((s.tid t).st == 3) = true := by rw [k3]; rfl
  have dq : decide ((0 : Int) < (((s.tid t).qs.length : Nat) : Int)) = false := decide_eq_false (by omega)
  have dqn : decide (0 < (s.tid t).qs.length) = false := decide_eq_false (by omega)
  have hcs : (if m.kd = 4 ∧ (s.tid t).st = 3 then (s.tid t).qs else []) = ([] : List Pd) := by
    by_cases h : m.kd = 4 ∧ (s.tid t).st = 3
    · rw [if_pos h]; exact List.eq_nil_of_length_eq_zero hq
    · rw [if_neg h]
  rw [hcs] at hnm
  have HNX := Lib.hid (show nextE s m = (if mayS (s.put t d) = true then 0 else 2) ∧ nextS s m = if mayS (s.put t d) = true then s.put t d else sta00 by
    have hts : toS s m = s.put t d := hnm.2
    have hne : nextE s m = if mayS (s.put t d) = true then 0 else 2 := by rw [hnm.1, if_neg (by rw [hE]; simp), hts]
    refine ⟨hne, ?_⟩
    unfold nextS
    rw [hne, hts]
    by_cases h : mayS (s.put t d) = true
    · rw [if_pos h, if_pos h]; rfl
    · rw [if_neg h, if_neg h]; rfl)
  clear hnm hcs
  subst hE
  clear hfr hq k4 k3
  rw [hms] at MS
  rw [hmm] at MM
  clear hW0 s0 B0 K1 K2 K3 h h1 hb h8 h9 hms hmm
  go_enter Tryz.func37, Tryz.ntmps37
  go_upto_region 1 with (fail)
  rw [← HW.out]
  go_wp2_with fail
  refine MS.out.mono ?_
  rintro e w1 ⟨rfl, b1⟩
  have l2 := mt_load (P := Tryz.prog) (HK2.out.below b1 HK2.out.lt)
  have B1 := Lib.hid b1
  clear b1 l1
  go_wp2_with fail
  refine (MM.out _ B1.out).mono ?_
  rintro e w2 ⟨rfl, b2⟩
  have B2 := Lib.hid (B1.out.trans (b2.mono B1.out.size))
  have KS := Lib.hid (HK1.out.below B2.out HK1.out.lt)
  have KE := Lib.hid (HK2.out.below B2.out HK2.out.lt)
  have KR := Lib.hid (HK3.out.below B2.out HK3.out.lt)
  have BS := Lib.hid (HB.out.trans (B2.out.mono HB.out.size))
  have OS := Lib.hid (StF.of (m := m) (A := A1) (D := D1) H.out BS.out BS.out.size)
  have Z2 := Lib.hid (show w.heap.size + 1 + 1 + 1 ≤ w2.heap.size by have := HS.out; have := B2.out.size; omega)
  have x0 := mt_cell KE.out (j := 0) rfl
  clear b2 l2
  have HTI := Lib.hid htid
  have x1 : w2.cell? ⟨w.heap.size + 1, 1, none⟩ = some (.int .i64 (t : Int)) := by rw [← HTI.out]; exact mt_cell KE.out (j := 1) rfl
  have lt1 := st_tid KS.out t ht
  obtain ⟨W3, st3, k3, b3, s3⟩ := bk_fresh (P := Tryz.prog) w2 29 #[.int .i8 0, .int .i64 0, .int .i64 0, .int .i64 0, .int .i64 0, .slice none 0 0, .slice none 0 0, .int .i64 0] #[.int .i8 (s.tid t).st, .int .i64 (s.tid t).pid, .int .i64 (s.tid t).ep, .int .i64 (s.tid t).tm, .int .i64 (s.tid t).th, .slice (a.A t) (s.tid t).ps.length (a.c t), .slice (a.D t) (s.tid t).qs.length (a.e t), .int .i64 (s.tid t).ag] 8 infoCoS rfl rfl (by simp [Value.oneCell'])
  have KC := Lib.hid k3
  have KS3 := Lib.hid (KS.out.below b3 KS.out.lt)
  have KE3 := Lib.hid (KE.out.below b3 KE.out.lt)
  have KR3 := Lib.hid (KR.out.below b3 KR.out.lt)
  have BS3 := Lib.hid (BS.out.trans (b3.mono BS.out.size))
  have OS3 := Lib.hid (show StF W3 (PF w.heap.size s a m A1 D1) s a from fun j hj => ⟨(OS.out j hj).1.up b3, (OS.out j hj).2⟩)
  have Z3 := Lib.hid (show w2.heap.size < W3.heap.size by omega)
  have y0 := mt_cell KE3.out (j := 0) rfl
  have q0 := KC.out.cell 0
  have i1 : (0 : Int) ≤ (t : Int) := by omega
  have i2 : (t : Int) < 3 := by omega
  clear k3 b3 s3 htid
  have xm := st_made KS3.out
  have le3 := mt_load (P := Tryz.prog) KE3.out
  have lc := bk_load (P := Tryz.prog) 8 KC.out rfl
  have CA := Lib.hid (HCA.out W3 (OS3.out t ht).1 (H1.out.up BS3.out))
  clear hk hn hd hmd htn
  go_wp2_with fail
  refine CA.out.mono ?_
  rintro e w4 ⟨A5, D5, c5, e5, rfl, r5, b5, off5⟩
  obtain ⟨W5, st5, k5, b6, s5⟩ := bk_fresh (P := Tryz.prog) w4 29 #[.int .i8 0, .int .i64 0, .int .i64 0, .int .i64 0, .int .i64 0, .slice none 0 0, .slice none 0 0, .int .i64 0] #[.int .i8 d.st, .int .i64 d.pid, .int .i64 d.ep, .int .i64 d.tm, .int .i64 d.th, .slice A5 d.ps.length c5, .slice D5 d.qs.length e5, .int .i64 d.ag] 8 infoCoS rfl rfl (by simp [Value.oneCell'])
  have HNO := Lib.hid (fun b (hp : PF w.heap.size s a m A1 D1 b) => off5 b (by have := Z2.out; have := Z3.out; have := hp.1; omega) ((OS3.out t ht).2 b hp).1 ((OS3.out t ht).2 b hp).2 hp.2.2.1 hp.2.2.2)
  have bb : Below W3.heap.size W3 W5 := b5.trans (b6.mono b5.size)
  have KC5 := Lib.hid (KC.out.below bb KC.out.lt)
  have KD5 := Lib.hid k5
  have KE5 := Lib.hid (KE3.out.below bb KE3.out.lt)
  have KR5 := Lib.hid (KR3.out.below bb KR3.out.lt)
  have KS5 := Lib.hid (KS3.out.below bb KS3.out.lt)
  have BS5 := Lib.hid (BS3.out.trans (bb.mono BS3.out.size))
  have R5 := Lib.hid (show CoR W5 W5.heap.size d A5 D5 from r5.up b6)
  have ZD := Lib.hid (show w2.heap.size < w4.heap.size ∧ w.heap.size + 3 ≤ w2.heap.size by have h1 := Z3.out; have h2 := b5.size; have h3 := Z2.out; omega)
  clear k5 b6 s5 r5 b5 off5 bb lc le3 xm x1 lt1 x0
  clear y0 q0
  have x5 : W5.cell? ⟨w.heap.size + 1, 1, none⟩ = some (.int .i64 (t : Int)) := by rw [← HTI.out]; exact mt_cell KE5.out (j := 1) rfl
  have ld5 := bk_load (P := Tryz.prog) 8 KD5.out rfl
  obtain ⟨W6, st6, k6, fb6, fh6, fs6⟩ := st_mkput KS5.out t ht d A5 D5 c5 e5
  have K6 := Lib.hid k6
  have bs6 := fb6 w.heap.size w (Nat.le_refl _) BS5.out
  have OS6 := Lib.hid (show StF W6 (PF w.heap.size s a m A1 D1) (s.put t d) (a.put t A5 D5 c5 e5) from ((StF.of H.out bs6 bs6.size).gr (s' := s) (fun _ _ => rfl)).put ((R5.out.keepB (HNO.out _ HP0.out).1 (HNO.out _ HP0.out).2 ((But.one fh6 fs6)).keep ((But.one fh6 fs6)).size)) HNO.out)
  have BS6 := Lib.hid bs6
  have KR6 := Lib.hid (KR5.out.but (by omega) (But.one fh6 fs6))
  clear k6 fb6 fh6 fs6 bs6
  have u6 := KC5.out.cell 6
  have u0 := KC5.out.cell 0
  have v0 := mt_cell KE5.out (j := 0) rfl
  have MY := Lib.hid (rMayS_any (s.put t d) (a.put t A5 D5 c5 e5) W6.heap.size W6 OS6.out.r (Nat.le_refl _) (HSB.out.put (may_stR (HDM.out (by simp)))))
  have lz := st_load K6.out
  cases hmt : mayS (s.put t d)
  · rw [hmt] at MY
    have HE := Lib.hid (show nextE s m = 2 by rw [HNX.out.1, hmt]; rfl)
    have HT := Lib.hid (show nextS s m = sta00 by rw [HNX.out.2, hmt]; rfl)
    clear hmt
    go_wp2_with fail
    go_loopg [9] 1 (fun mm y wq => y = .int .i64 0 ∧ mm = 1 ∧ wq = W5)
    case atStart => exact ⟨rfl, rfl, rfl⟩
    obtain ⟨rfl, hmm, rfl⟩ := hrel
    clear hmm
    go_wp2_with fail
    refine MY.out.mono ?_
    rintro e w7 ⟨rfl, b7⟩
    clear lz
    obtain ⟨W9, st9, k9, fb9, fh9, fs9⟩ := bk_store (P := Tryz.prog) (ty := 34) (cs := stX sta00 sad0) 31 (KR6.out.below b7 KR6.out.lt) infoSta rfl (stX_size ..) (stX_one ..)
    have K9 := Lib.hid k9
    have B9 := Lib.hid (fb9 w.heap.size w (by omega) (BS6.out.trans (b7.mono BS6.out.size)))
    clear k9 fb9 fh9 fs9
    clear b7
    go_wp2_with fail
    refine bodyPost_ret (v := .tuple #[.agg (stX sta00 sad0), .int .i64 2]) (rnext_ret _ _ _ (w.heap.size + 1 + 1) _ rfl rfl K9.out (stX_size ..)) rfl ?_
    rw [HT.out, HE.out]
    exact ⟨sad0, rfl, sta00_R _ _, B9.out, fun _ _ _ _ _ _ _ => ⟨fun h => absurd h (Nat.lt_irrefl 0), fun h => absurd h (Nat.lt_irrefl 0)⟩⟩
  · rw [hmt] at MY
    have HE := Lib.hid (show nextE s m = 0 by rw [HNX.out.1, hmt]; rfl)
    have HT := Lib.hid (show nextS s m = (s.put t d) by rw [HNX.out.2, hmt]; rfl)
    clear hmt
    go_wp2_with fail
    go_loopg [9] 1 (fun mm y wq => y = .int .i64 0 ∧ mm = 1 ∧ wq = W5)
    case atStart => exact ⟨rfl, rfl, rfl⟩
    obtain ⟨rfl, hmm, rfl⟩ := hrel
    clear hmm
    go_wp2_with fail
    refine MY.out.mono ?_
    rintro e w7 ⟨rfl, b7⟩
    have KS7 := Lib.hid (K6.out.below b7 K6.out.lt)
    have KR7 := Lib.hid (KR6.out.below b7 KR6.out.lt)
    have BS7 := Lib.hid (BS6.out.trans (b7.mono BS6.out.size))
    have OS7 := Lib.hid (show StF w7 (PF w.heap.size s a m A1 D1) (s.put t d) (a.put t A5 D5 c5 e5) from fun j hj => ⟨(OS6.out j hj).1.up b7, (OS6.out j hj).2⟩)
    clear lz b7
    have lo := st_load KS7.out
    obtain ⟨W9, st9, k9, fb9, fh9, fs9⟩ := bk_store (P := Tryz.prog) (ty := 34) (cs := stX (s.put t d) (a.put t A5 D5 c5 e5)) 31 KR7.out infoSta rfl (stX_size ..) (stX_one ..)
    have K9 := Lib.hid k9
    have B9 := Lib.hid (fb9 w.heap.size w (by omega) BS7.out)
    have O9 := Lib.hid (StF.but OS7.out (b := w.heap.size + 1 + 1) HP2.out (But.one fh9 fs9))
    clear k9 fb9 fh9 fs9
    go_wp2_with fail
    refine bodyPost_ret (v := .tuple #[.agg (stX (s.put t d) (a.put t A5 D5 c5 e5)), .int .i64 0]) (rnext_ret _ _ _ (w.heap.size + 1 + 1) _ rfl rfl K9.out (stX_size ..)) rfl ?_
    rw [HT.out, HE.out]
    exact ⟨_, rfl, O9.out.r, B9.out, fun b hb h1 h2 h3 k hk => (O9.out k hk).2 b ⟨by omega, h1, h2, h3⟩⟩
set_option maxRecDepth 100000 in
set_option maxHeartbeats 8000000 in
theorem rNext_ml (s : Sta) (a : Sad) (m : Mt) (A1 D1 : Option Addr) (c1 e1 : Nat) (w : World) (h : StR w w.heap.size s a) (h1 : CoR w w.heap.size m.c A1 D1) (hb : StB s) (h8 : -128 ≤ m.c.st) (h9 : m.c.st ≤ 127) (hms : mayS s = true) (hmm : mayM m = true) (t : Nat) (ht : t < 3) (htid : m.tid = (t : Int)) (hk : ¬ (m.kd = 0 ∨ m.kd = 5 ∨ m.kd = 7)) (hE : moveE (s.tid t) m s.made = 0) (hfr : ¬ (m.kd = 1 ∧ (s.tid t).st = 0)) (k4 : m.kd = 4) (k3 : (s.tid t).st = 3) (hq : 0 < (s.tid t).qs.length) :
    Calls Tryz.prog 37 #[.agg (stX s a), .agg (mtX m A1 D1 c1 e1)] w (NxD s a m A1 D1 (nextS s m) (nextE s m) w) := by
  obtain ⟨W0, hW0⟩ : ∃ W0, W0 = ((w.alloc (.cells (stX s a) 34)).alloc (.cells (mtX m A1 D1 c1 e1) 42)).alloc (.cells #[.int .i64 0, .int .i8 0, .int .i64 0, .int .i64 0, .int .i64 0, .int .i64 0, .slice none 0 0, .slice none 0 0, .int .i64 0, .int .i8 0, .int .i64 0, .int .i64 0, .int .i64 0, .int .i64 0, .slice none 0 0, .slice none 0 0, .int .i64 0, .int .i8 0, .int .i64 0, .int .i64 0, .int .i64 0, .int .i64 0, .slice none 0 0, .slice none 0 0, .int .i64 0, .int .i64 0, .int .i64 0, .int .i64 0, .int .i64 0, .int .i64 0, .int .i64 0] 34) := ⟨_, rfl⟩
  have s0 : W0.heap.size = w.heap.size + 1 + 1 + 1 := by rw [hW0]; simp
  have B0 : Below w.heap.size w W0 := by rw [hW0]; exact bal (bal (bal (Below.refl _ _) _) _) _
  have K1 : Blk W0 w.heap.size 34 (stX s a) := by rw [hW0]; exact ((Blk.new w 34 (stX s a)).alloc _).alloc _
  have K2 : Blk W0 (w.heap.size + 1) 42 (mtX m A1 D1 c1 e1) := by rw [hW0]; exact (bk_new _ 42 _ (by simp)).alloc _
  have K3 : Blk W0 (w.heap.size + 1 + 1) 34 #[.int .i64 0, .int .i8 0, .int .i64 0, .int .i64 0, .int .i64 0, .int .i64 0, .slice none 0 0, .slice none 0 0, .int .i64 0, .int .i8 0, .int .i64 0, .int .i64 0, .int .i64 0, .int .i64 0, .slice none 0 0, .slice none 0 0, .int .i64 0, .int .i8 0, .int .i64 0, .int .i64 0, .int .i64 0, .int .i64 0, .slice none 0 0, .slice none 0 0, .int .i64 0, .int .i64 0, .int .i64 0, .int .i64 0, .int .i64 0, .int .i64 0, .int .i64 0] := by rw [hW0]; exact bk_new _ 34 _ (by simp)
  have HW := Lib.hid hW0
  have HS := Lib.hid s0
  have HB := Lib.hid B0
  have HK1 := Lib.hid K1
  have HK2 := Lib.hid K2
  have HK3 := Lib.hid K3
  have H := Lib.hid h
  have H1 := Lib.hid h1
  have HP0 := Lib.hid (PF.own (b := w.heap.size) h h1 (by omega) (by omega))
  have HP2 := Lib.hid (PF.own (b := w.heap.size + 1 + 1) h h1 (by omega) (by omega))
  have HSB := Lib.hid hb
  have l1 := st_load K1
  have bd : ∀ W, (Instr.build 34 #[]).run Tryz.prog W = .ok (.agg (stX sta00 sad0)) W := fun W => run_build W 34 _ _ (by kernel_rfl)
  have MS := Lib.hid (rMayS_any s a w.heap.size W0 (h.below B0) B0.size hb)
  have MM := Lib.hid (fun W (hb : Below W0.heap.size W0 W) => rMayM_all m A1 D1 c1 e1 w.heap.size W (h1.below (B0.trans (hb.mono B0.size))) (Nat.le_trans B0.size hb.size) h8 h9)
  have htn : m.tid.toNat = t := by rw [htid]; rfl
  have k0 : (m.kd == 0) = false := by simp; omega
  have k5 : (m.kd == 5) = false := by simp; omega
  have k7 : (m.kd == 7) = false := by simp; omega
  have hmd := ((mayS_iff s).1 hms)
  have HMD := Lib.hid (And.intro hmd.1 hmd.2.1)
  obtain ⟨n, hn⟩ : ∃ n, moveE (s.tid t) m s.made = n := ⟨_, rfl⟩
  obtain ⟨d, hd⟩ : ∃ d, moveC (s.tid t) m s.made = d := ⟨_, rfl⟩
  have hnm := next_m hms hmm hk (by rw [htn]; exact hfr)
  rw [htn, hn, hd] at hnm
  rw [hn] at hE
  have HDM := Lib.hid (show n = 0 → mayB d = true from fun h => by rw [← hd]; exact moveC_may ((okT_iff s t).1 (hmd.2.2.1 t ht)).1 hmm hk (by rw [hn]; exact h))
  have HCA := Lib.hid (fun W (hc : CoR W W.heap.size (s.tid t) (a.A t) (a.D t)) (hmc : CoR W W.heap.size m.c A1 D1) => show Calls Tryz.prog 66 #[.agg #[.int .i8 (s.tid t).st, .int .i64 (s.tid t).pid, .int .i64 (s.tid t).ep, .int .i64 (s.tid t).tm, .int .i64 (s.tid t).th, .slice (a.A t) (s.tid t).ps.length (a.c t), .slice (a.D t) (s.tid t).qs.length (a.e t), .int .i64 (s.tid t).ag], .agg (mtX m A1 D1 c1 e1), .int .i64 s.made] W (RmP (s.tid t) (a.A t) (a.D t) m A1 D1 d n W) by
    rw [← hd, ← hn]
    exact rmove_any (s.tid t) (a.A t) (a.D t) (a.c t) (a.e t) m A1 D1 c1 e1 s.made W hc hmc (hb t ht).1 (hb t ht).2 hmd.1 hmd.2.1)
  have fe1 : (m.kd == 1) = false := by simp; omega
  have fe4 : (m.kd == 4) = true := by rw [k4]; rfl
  have fe3 : ((s.tid t).st == 3) = true := by rw [k3]; rfl
  have HPB := Lib.hid (show ∀ p, p ∈ (s.tid t).qs → pendB p = true from List.all_eq_true.1 ((range_iff _).1 (may_range ((okT_iff s t).1 (hmd.2.2.1 t ht)).1 (by omega))).1)
  rw [show (if m.kd = 4 ∧ (s.tid t).st = 3 then (s.tid t).qs else []) = (s.tid t).qs from if_pos ⟨k4, k3⟩] at hnm
  have HNX := Lib.hid (show nextE s m = (if mayS ((s.pends (s.tid t).qs).put t d) = true then 0 else 2) ∧ nextS s m = if mayS ((s.pends (s.tid t).qs).put t d) = true then (s.pends (s.tid t).qs).put t d else sta00 by
    have hts := hnm.2
    have hne : nextE s m = if mayS ((s.pends (s.tid t).qs).put t d) = true then 0 else 2 := by rw [hnm.1, if_neg (by rw [hE]; simp), hts]
    refine ⟨hne, ?_⟩
    unfold nextS
    rw [hne, hts]
    by_cases h : mayS ((s.pends (s.tid t).qs).put t d) = true
    · rw [if_pos h, if_pos h]; rfl
    · rw [if_neg h, if_neg h]; rfl)
  clear hnm
  subst hE
  clear hfr hq k4 k3
  rw [hms] at MS
  rw [hmm] at MM
  clear hW0 s0 B0 K1 K2 K3 h h1 hb h8 h9 hms hmm
  go_enter Tryz.func37, Tryz.ntmps37
  go_upto_region 1 with (fail)
  rw [← HW.out]
  go_wp2_with fail
  refine MS.out.mono ?_
  rintro e w1 ⟨rfl, b1⟩
  have l2 := mt_load (P := Tryz.prog) (HK2.out.below b1 HK2.out.lt)
  have B1 := Lib.hid b1
  clear b1 l1
  go_wp2_with fail
  refine (MM.out _ B1.out).mono ?_
  rintro e w2 ⟨rfl, b2⟩
  have B2 := Lib.hid (B1.out.trans (b2.mono B1.out.size))
  have KS := Lib.hid (HK1.out.below B2.out HK1.out.lt)
  have KE := Lib.hid (HK2.out.below B2.out HK2.out.lt)
  have KR := Lib.hid (HK3.out.below B2.out HK3.out.lt)
  have BS := Lib.hid (HB.out.trans (B2.out.mono HB.out.size))
  have OS := Lib.hid (StF.of (m := m) (A := A1) (D := D1) H.out BS.out BS.out.size)
  have Z2 := Lib.hid (show w.heap.size + 1 + 1 + 1 ≤ w2.heap.size by have := HS.out; have := B2.out.size; omega)
  have x0 := mt_cell KE.out (j := 0) rfl
  clear b2 l2
  have HTI := Lib.hid htid
  have x1 : w2.cell? ⟨w.heap.size + 1, 1, none⟩ = some (.int .i64 (t : Int)) := by rw [← HTI.out]; exact mt_cell KE.out (j := 1) rfl
  have lt1 := st_tid KS.out t ht
  obtain ⟨W3, st3, k3, b3, s3⟩ := bk_fresh (P := Tryz.prog) w2 29 #[.int .i8 0, .int .i64 0, .int .i64 0, .int .i64 0, .int .i64 0, .slice none 0 0, .slice none 0 0, .int .i64 0] #[.int .i8 (s.tid t).st, .int .i64 (s.tid t).pid, .int .i64 (s.tid t).ep, .int .i64 (s.tid t).tm, .int .i64 (s.tid t).th, .slice (a.A t) (s.tid t).ps.length (a.c t), .slice (a.D t) (s.tid t).qs.length (a.e t), .int .i64 (s.tid t).ag] 8 infoCoS rfl rfl (by simp [Value.oneCell'])
  have KC := Lib.hid k3
  have KS3 := Lib.hid (KS.out.below b3 KS.out.lt)
  have KE3 := Lib.hid (KE.out.below b3 KE.out.lt)
  have KR3 := Lib.hid (KR.out.below b3 KR.out.lt)
  have BS3 := Lib.hid (BS.out.trans (b3.mono BS.out.size))
  have OS3 := Lib.hid (show StF W3 (PF w.heap.size s a m A1 D1) s a from fun j hj => ⟨(OS.out j hj).1.up b3, (OS.out j hj).2⟩)
  have Z3 := Lib.hid (show w2.heap.size < W3.heap.size by omega)
  have y0 := mt_cell KE3.out (j := 0) rfl
  have q0 := KC.out.cell 0
  have i1 : (0 : Int) ≤ (t : Int) := by omega
  have i2 : (t : Int) < 3 := by omega
  clear k3 b3 s3 htid
  have xm := st_made KS3.out
  have le3 := mt_load (P := Tryz.prog) KE3.out
  have lc := bk_load (P := Tryz.prog) 8 KC.out rfl
  have CA := Lib.hid (HCA.out W3 (OS3.out t ht).1 (H1.out.up BS3.out))
  clear hk hn hd hmd htn
  go_wp2_with fail
  refine CA.out.mono ?_
  rintro e w4 ⟨A5, D5, c5, e5, rfl, r5, b5, off5⟩
  obtain ⟨W5, st5, k5, b6, s5⟩ := bk_fresh (P := Tryz.prog) w4 29 #[.int .i8 0, .int .i64 0, .int .i64 0, .int .i64 0, .int .i64 0, .slice none 0 0, .slice none 0 0, .int .i64 0] #[.int .i8 d.st, .int .i64 d.pid, .int .i64 d.ep, .int .i64 d.tm, .int .i64 d.th, .slice A5 d.ps.length c5, .slice D5 d.qs.length e5, .int .i64 d.ag] 8 infoCoS rfl rfl (by simp [Value.oneCell'])
  have HNO := Lib.hid (fun b (hp : PF w.heap.size s a m A1 D1 b) => off5 b (by have := Z2.out; have := Z3.out; have := hp.1; omega) ((OS3.out t ht).2 b hp).1 ((OS3.out t ht).2 b hp).2 hp.2.2.1 hp.2.2.2)
  have bb : Below W3.heap.size W3 W5 := b5.trans (b6.mono b5.size)
  have KC5 := Lib.hid (KC.out.below bb KC.out.lt)
  have KD5 := Lib.hid k5
  have KE5 := Lib.hid (KE3.out.below bb KE3.out.lt)
  have KR5 := Lib.hid (KR3.out.below bb KR3.out.lt)
  have KS5 := Lib.hid (KS3.out.below bb KS3.out.lt)
  have BS5 := Lib.hid (BS3.out.trans (bb.mono BS3.out.size))
  have R5 := Lib.hid (show CoR W5 W5.heap.size d A5 D5 from r5.up b6)
  have ZD := Lib.hid (show w2.heap.size < w4.heap.size ∧ w.heap.size + 3 ≤ w2.heap.size by have h1 := Z3.out; have h2 := b5.size; have h3 := Z2.out; omega)
  clear k5 b6 s5 r5 b5 off5 bb lc le3 xm x1 lt1 x0
  have HQ := Lib.hid (H.out t ht).2.1
  have HLN := Lib.hid (H.out t ht).2.2.2
  clear y0 q0
  go_wp2_with fail
  go_loopg [9] (s.tid t).qs.length (fun mm y wq => ∃ (k : Nat), k ≤ (s.tid t).qs.length ∧ y = .int .i64 k ∧ mm = (s.tid t).qs.length - k ∧ Blk wq w.heap.size 34 (stX (s.pends ((s.tid t).qs.take k)) a) ∧ But w.heap.size W5 wq ∧ Below w.heap.size w wq)
  case atStart => exact ⟨0, Nat.zero_le _, rfl, rfl, KS5.out, But.refl _ _, BS5.out⟩
  case round =>
    obtain ⟨k, hk, rfl, hmm, hkg, hbt, hbg⟩ := hrel
    have HMM := Lib.hid hmm
    have KG := Lib.hid hkg
    have BT := Lib.hid hbt
    have BR := Lib.hid hbg
    have KCr := Lib.hid (KC5.out.but (by have := ZD.out; omega) hbt)
    have KEr := Lib.hid (KE5.out.but (by omega) hbt)
    have u6 := KCr.out.cell 6
    have u0 := KCr.out.cell 0
    have v0 := mt_cell KEr.out (j := 0) rfl
    clear hmm hkg hbt hbg
    by_cases hlt : k < (s.tid t).qs.length
    · have dlt : decide ((k : Int) < (((s.tid t).qs.length : Nat) : Int)) = true := decide_eq_true (by omega)
      have j1 : (0 : Int) ≤ (k : Int) := by omega
      have j2 : (k : Int) < (((s.tid t).qs.length : Nat) : Int) := by omega
      have hln := HLN.out
      obtain ⟨p, hp⟩ : ∃ p, (s.tid t).qs[k]? = some p := ⟨_, List.getElem?_eq_getElem hlt⟩
      have hpb := HPB.out p (List.mem_of_getElem? hp)
      unfold pendB partB at hpb
      simp only [Bool.and_eq_true, decide_eq_true_eq] at hpb
      obtain ⟨gn, hgn⟩ : ∃ gn : Nat, p.1 = (gn : Int) := ⟨p.1.toNat, by omega⟩
      obtain ⟨qn, hqn⟩ : ∃ qn : Nat, p.2.1 = (qn : Int) := ⟨p.2.1.toNat, by omega⟩
      have g1 : gn < 2 := by omega
      have q1 : qn < 3 := by omega
      have g2 : (0 : Int) ≤ (gn : Int) := by omega
      have g3 : (gn : Int) < 2 := by omega
      have q2 : (0 : Int) ≤ (qn : Int) := by omega
      have q3 : (qn : Int) < 3 := by omega
      obtain ⟨b1, o1, hA, hb1, hc1⟩ := (HQ.out.below BR.out).plain3 (by omega)
      have hcell := hc1 k p hp
      have z0 : wr.drew.cell? ⟨b1, o1 + k * 3, none⟩ = some (.int .i64 (gn : Int)) := by rw [← hgn]; exact hcell.1
      have z1 : wr.drew.cell? ⟨b1, o1 + k * 3 + 1, none⟩ = some (.int .i64 (qn : Int)) := by rw [← hqn]; exact hcell.2.1
      have z2 : wr.drew.cell? ⟨b1, o1 + k * 3 + 2, none⟩ = some (.int .i64 p.2.2) := hcell.2.2
      have z6 := KCr.out.drew.cell 6
      obtain ⟨W7, st7, k7, fb7, fh7, fs7⟩ := st_mkgr KG.out.drew gn qn g1 q1 p hgn hqn
      have K7 := Lib.hid (show Blk W7 w.heap.size 34 (stX (s.pends ((s.tid t).qs.take (k + 1))) a) by rw [List.take_add_one, hp]; simp only [Option.toList_some]; rw [pends_snoc]; exact k7)
      have BT7 := Lib.hid (BT.out.trans ((But.drew w.heap.size wr).trans (But.one fh7 fs7)))
      have BR7 := Lib.hid (fb7 w.heap.size w (Nat.le_refl _) BR.out.drew)
      clear hp hpb hgn hqn k7 fb7 fh7 fs7 hcell hc1 hb1
      go_wp2_with fail
      refine wp_region_qtail 21 (by kernel_rfl) (by kernel_rfl) ?_
      simp only [List.take_succ_cons, List.take_zero, List.drop_succ_cons, List.drop_zero]
      repeat (go_big_quiet_step (fail))
      refine wpQuiet_nil ?_
      go_wp2_with fail
      go_roundg (gk - 1)
      case measure => have := HMM.out; omega
      case rel => exact ⟨k + 1, by omega, by go_num, by have := HMM.out; omega, K7.out, BT7.out, BR7.out⟩
    · have hkn : k = (s.tid t).qs.length := by omega
      have dlt : decide ((k : Int) < (((s.tid t).qs.length : Nat) : Int)) = false := decide_eq_false (by omega)
      have KF := Lib.hid (show Blk wr w.heap.size 34 (stX (s.pends (s.tid t).qs) a) by
        have := KG.out
        rw [hkn, List.take_length] at this
        exact this)
      have KRr := Lib.hid (KR5.out.but (by omega) BT.out)
      have KDr := Lib.hid (KD5.out.but (by have := ZD.out; omega) BT.out)
      clear hkn
      have x5 : wr.cell? ⟨w.heap.size + 1, 1, none⟩ = some (.int .i64 (t : Int)) := by rw [← HTI.out]; exact mt_cell KEr.out (j := 1) rfl
      have ld5 := bk_load (P := Tryz.prog) 8 KDr.out rfl
      obtain ⟨W6, st6, k6, fb6, fh6, fs6⟩ := st_mkput KF.out t ht d A5 D5 c5 e5
      have K6 := Lib.hid k6
      have bs6 := fb6 w.heap.size w (Nat.le_refl _) BR.out
      have OS6 := Lib.hid (show StF W6 (PF w.heap.size s a m A1 D1) ((s.pends (s.tid t).qs).put t d) (a.put t A5 D5 c5 e5) from ((StF.of H.out bs6 bs6.size).gr (s' := (s.pends (s.tid t).qs)) (fun j _ => pends_tid _ _ j)).put ((R5.out.keepB (HNO.out _ HP0.out).1 (HNO.out _ HP0.out).2 (BT.out.trans (But.one fh6 fs6)).keep (BT.out.trans (But.one fh6 fs6)).size)) HNO.out)
      have BS6 := Lib.hid bs6
      have KR6 := Lib.hid (KRr.out.but (by omega) (But.one fh6 fs6))
      clear k6 fb6 fh6 fs6 bs6
      have MY := Lib.hid (rMayS_any ((s.pends (s.tid t).qs).put t d) (a.put t A5 D5 c5 e5) W6.heap.size W6 OS6.out.r (Nat.le_refl _) ((HSB.out.gr (s' := s.pends (s.tid t).qs) (fun j _ => pends_tid _ _ j)).put (may_stR (HDM.out (by simp)))))
      have lz := st_load K6.out
      cases hmt : mayS ((s.pends (s.tid t).qs).put t d)
      · rw [hmt] at MY
        have HE := Lib.hid (show nextE s m = 2 by rw [HNX.out.1, hmt]; rfl)
        have HT := Lib.hid (show nextS s m = sta00 by rw [HNX.out.2, hmt]; rfl)
        clear hmt
        go_wp2_with fail
        refine MY.out.mono ?_
        rintro e w7 ⟨rfl, b7⟩
        clear lz
        obtain ⟨W9, st9, k9, fb9, fh9, fs9⟩ := bk_store (P := Tryz.prog) (ty := 34) (cs := stX sta00 sad0) 31 (KR6.out.below b7 KR6.out.lt) infoSta rfl (stX_size ..) (stX_one ..)
        have K9 := Lib.hid k9
        have B9 := Lib.hid (fb9 w.heap.size w (by omega) (BS6.out.trans (b7.mono BS6.out.size)))
        clear k9 fb9 fh9 fs9
        clear b7
        go_wp2_with fail
        refine bodyPost_ret (v := .tuple #[.agg (stX sta00 sad0), .int .i64 2]) (rnext_ret _ _ _ (w.heap.size + 1 + 1) _ rfl rfl K9.out (stX_size ..)) rfl ?_
        rw [HT.out, HE.out]
        exact ⟨sad0, rfl, sta00_R _ _, B9.out, fun _ _ _ _ _ _ _ => ⟨fun h => absurd h (Nat.lt_irrefl 0), fun h => absurd h (Nat.lt_irrefl 0)⟩⟩
      · rw [hmt] at MY
        have HE := Lib.hid (show nextE s m = 0 by rw [HNX.out.1, hmt]; rfl)
        have HT := Lib.hid (show nextS s m = ((s.pends (s.tid t).qs).put t d) by rw [HNX.out.2, hmt]; rfl)
        clear hmt
        go_wp2_with fail
        refine MY.out.mono ?_
        rintro e w7 ⟨rfl, b7⟩
        have KS7 := Lib.hid (K6.out.below b7 K6.out.lt)
        have KR7 := Lib.hid (KR6.out.below b7 KR6.out.lt)
        have BS7 := Lib.hid (BS6.out.trans (b7.mono BS6.out.size))
        have OS7 := Lib.hid (show StF w7 (PF w.heap.size s a m A1 D1) ((s.pends (s.tid t).qs).put t d) (a.put t A5 D5 c5 e5) from fun j hj => ⟨(OS6.out j hj).1.up b7, (OS6.out j hj).2⟩)
        clear lz b7
        have lo := st_load KS7.out
        obtain ⟨W9, st9, k9, fb9, fh9, fs9⟩ := bk_store (P := Tryz.prog) (ty := 34) (cs := stX ((s.pends (s.tid t).qs).put t d) (a.put t A5 D5 c5 e5)) 31 KR7.out infoSta rfl (stX_size ..) (stX_one ..)
        have K9 := Lib.hid k9
        have B9 := Lib.hid (fb9 w.heap.size w (by omega) BS7.out)
        have O9 := Lib.hid (StF.but OS7.out (b := w.heap.size + 1 + 1) HP2.out (But.one fh9 fs9))
        clear k9 fb9 fh9 fs9
        go_wp2_with fail
        refine bodyPost_ret (v := .tuple #[.agg (stX ((s.pends (s.tid t).qs).put t d) (a.put t A5 D5 c5 e5)), .int .i64 0]) (rnext_ret _ _ _ (w.heap.size + 1 + 1) _ rfl rfl K9.out (stX_size ..)) rfl ?_
        rw [HT.out, HE.out]
        exact ⟨_, rfl, O9.out.r, B9.out, fun b hb h1 h2 h3 k hk => (O9.out k hk).2 b ⟨by omega, h1, h2, h3⟩⟩
theorem rNext_any (s : Sta) (a : Sad) (m : Mt) (A1 D1 : Option Addr) (c1 e1 : Nat) (w : World) (h : StR w w.heap.size s a) (h1 : CoR w w.heap.size m.c A1 D1) (hb : StB s) (h8 : -128 ≤ m.c.st) (h9 : m.c.st ≤ 127) :
    Calls Tryz.prog 37 #[.agg (stX s a), .agg (mtX m A1 D1 c1 e1)] w (NxD s a m A1 D1 (nextS s m) (nextE s m) w) := by
  cases hms : mayS s
  · have he : nextE s m = 2 := by unfold nextE; rw [if_pos (.inl hms)]
    have ht : nextS s m = sta00 := by unfold nextS; rw [he]; rfl
    rw [he, ht]
    exact rNext_bad s a m A1 D1 c1 e1 w h h1 hb h8 h9 (.inl hms)
  cases hmm : mayM m
  · have he : nextE s m = 2 := by unfold nextE; rw [if_pos (.inr hmm)]
    have ht : nextS s m = sta00 := by unfold nextS; rw [he]; rfl
    rw [he, ht]
    exact rNext_bad s a m A1 D1 c1 e1 w h h1 hb h8 h9 (.inr hmm)
  have hf := mayM_fit hmm
  obtain ⟨t, htid⟩ : ∃ t : Nat, m.tid = (t : Int) := ⟨m.tid.toNat, by omega⟩
  have ht : t < 3 := by omega
  by_cases k0 : m.kd = 0
  · by_cases hm : s.made = 8
    · exact rNext_0f s a m A1 D1 c1 e1 w h h1 hb h8 h9 hms hmm k0 hm
    · exact rNext_0 s a m A1 D1 c1 e1 w h h1 hb h8 h9 hms hmm k0 hm
  by_cases k5 : m.kd = 5
  · exact rNext_5 s a m A1 D1 c1 e1 w h h1 hb h8 h9 hms hmm k5
  by_cases k7 : m.kd = 7
  · exact rNext_7 s a m A1 D1 c1 e1 w h h1 hb h8 h9 hms hmm k7
  have hk : ¬ (m.kd = 0 ∨ m.kd = 5 ∨ m.kd = 7) := by omega
  by_cases hfr : m.kd = 1 ∧ (s.tid t).st = 0
  · by_cases hm : s.made = 8
    · exact rNext_ff s a m A1 D1 c1 e1 w h h1 hb h8 h9 hms hmm t ht htid hfr.1 hfr.2 hm
    · exact rNext_f s a m A1 D1 c1 e1 w h h1 hb h8 h9 hms hmm t ht htid hfr.1 hfr.2 hm
  by_cases hE : moveE (s.tid t) m s.made = 0
  · by_cases hq : (s.tid t).qs.length = 0
    · by_cases k1 : m.kd = 1
      · exact rNext_mn1z s a m A1 D1 c1 e1 w h h1 hb h8 h9 hms hmm t ht htid hk hE hfr k1 hq
      by_cases k4 : m.kd = 4
      · by_cases k3 : (s.tid t).st = 3
        · exact rNext_mn4z s a m A1 D1 c1 e1 w h h1 hb h8 h9 hms hmm t ht htid hk hE hfr k4 k3 hq
        · exact rNext_mn3z s a m A1 D1 c1 e1 w h h1 hb h8 h9 hms hmm t ht htid hk hE hfr k4 k3 hq
      · exact rNext_mn2z s a m A1 D1 c1 e1 w h h1 hb h8 h9 hms hmm t ht htid hk hE hfr k1 k4 hq
    · by_cases k1 : m.kd = 1
      · exact rNext_mn1p s a m A1 D1 c1 e1 w h h1 hb h8 h9 hms hmm t ht htid hk hE hfr k1 (by omega)
      by_cases k4 : m.kd = 4
      · by_cases k3 : (s.tid t).st = 3
        · exact rNext_ml s a m A1 D1 c1 e1 w h h1 hb h8 h9 hms hmm t ht htid hk hE hfr k4 k3 (by omega)
        · exact rNext_mn3p s a m A1 D1 c1 e1 w h h1 hb h8 h9 hms hmm t ht htid hk hE hfr k4 k3 (by omega)
      · exact rNext_mn2p s a m A1 D1 c1 e1 w h h1 hb h8 h9 hms hmm t ht htid hk hE hfr k1 k4 (by omega)
  · by_cases k1 : m.kd = 1
    · exact rNext_me1 s a m A1 D1 c1 e1 w h h1 hb h8 h9 hms hmm t ht htid hk hE hfr k1
    · exact rNext_me2 s a m A1 D1 c1 e1 w h h1 hb h8 h9 hms hmm t ht htid hk hE hfr k1
end
end Go.Proofs.YtbpkckahonmpkaaGreatDoor
