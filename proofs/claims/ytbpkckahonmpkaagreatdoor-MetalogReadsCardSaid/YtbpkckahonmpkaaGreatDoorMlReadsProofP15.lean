/-
  Layer 19: whether an entry may be, by the document.
-/
import Derived.Test.YtbpkckahonmpkaaGreatDoorMlReadsProofP14
set_option linter.unusedVariables false
set_option linter.unusedSimpArgs false
namespace Go.Proofs.YtbpkckahonmpkaaGreatDoor
open Go.RowKit
def bA (m : Mt) (A : Option Addr) : Option Addr := if m.kd = 6 then A else none
def bN (m : Mt) (n : Nat) : Nat := if m.kd = 6 then n else 0
theorem bare_R {w : World} {B : Nat} {m : Mt} {A D : Option Addr} (h : CoR w B m.c A D) : CoR w B (bareM m).c (bA m A) (bA m D) := by
  unfold bareM bA
  by_cases hk : m.kd = 6
  · simp only [hk, if_true]; exact h
  · simp only [hk, if_false]; exact co0_R w B
theorem bareM_1 (m : Mt) (A1 D1 : Option Addr) (c1 e1 : Nat) (hk : m.kd = 1) : mtX (bareM m) (bA m A1) (bA m D1) (bN m c1) (bN m e1) = mtX { Mt0 m.kd with tid := m.tid, tm := m.tm } none none 0 0 := by
  have hb : bareM m = { Mt0 m.kd with tid := m.tid, tm := m.tm } := by unfold bareM Mt0; simp [hk]
  rw [hb]; unfold bA bN; simp [hk]
theorem bareM_2 (m : Mt) (A1 D1 : Option Addr) (c1 e1 : Nat) (hk : m.kd = 2) : mtX (bareM m) (bA m A1) (bA m D1) (bN m c1) (bN m e1) = mtX { Mt0 m.kd with tid := m.tid, p := m.p } none none 0 0 := by
  have hb : bareM m = { Mt0 m.kd with tid := m.tid, p := m.p } := by unfold bareM Mt0; simp [hk]
  rw [hb]; unfold bA bN; simp [hk]
theorem bareM_3 (m : Mt) (A1 D1 : Option Addr) (c1 e1 : Nat) (hk : m.kd = 3) : mtX (bareM m) (bA m A1) (bA m D1) (bN m c1) (bN m e1) = mtX { Mt0 m.kd with tid := m.tid, yes := m.yes, th := m.th } none none 0 0 := by
  have hb : bareM m = { Mt0 m.kd with tid := m.tid, yes := m.yes, th := m.th } := by unfold bareM Mt0; simp [hk]
  rw [hb]; unfold bA bN; simp [hk]
theorem bareM_4 (m : Mt) (A1 D1 : Option Addr) (c1 e1 : Nat) (hk : m.kd = 4) : mtX (bareM m) (bA m A1) (bA m D1) (bN m c1) (bN m e1) = mtX { Mt0 m.kd with tid := m.tid } none none 0 0 := by
  have hb : bareM m = { Mt0 m.kd with tid := m.tid } := by unfold bareM Mt0; simp [hk]
  rw [hb]; unfold bA bN; simp [hk]
theorem bareM_5 (m : Mt) (A1 D1 : Option Addr) (c1 e1 : Nat) (hk : m.kd = 5) : mtX (bareM m) (bA m A1) (bA m D1) (bN m c1) (bN m e1) = mtX { Mt0 m.kd with p := m.p } none none 0 0 := by
  have hb : bareM m = { Mt0 m.kd with p := m.p } := by unfold bareM Mt0; simp [hk]
  rw [hb]; unfold bA bN; simp [hk]
theorem bareM_6 (m : Mt) (A1 D1 : Option Addr) (c1 e1 : Nat) (hk : m.kd = 6) : mtX (bareM m) (bA m A1) (bA m D1) (bN m c1) (bN m e1) = mtX { Mt0 m.kd with tid := m.tid, c := m.c } A1 D1 c1 e1 := by
  have hb : bareM m = { Mt0 m.kd with tid := m.tid, c := m.c } := by unfold bareM Mt0; simp [hk]
  rw [hb]; unfold bA bN; simp [hk]
theorem bareM_7 (m : Mt) (A1 D1 : Option Addr) (c1 e1 : Nat) (hk : m.kd = 7) : mtX (bareM m) (bA m A1) (bA m D1) (bN m c1) (bN m e1) = mtX { Mt0 m.kd with nx := m.nx } none none 0 0 := by
  have hb : bareM m = { Mt0 m.kd with nx := m.nx } := by unfold bareM Mt0; simp [hk]
  rw [hb]; unfold bA bN; simp [hk]
theorem bareM_no (m : Mt) (A1 D1 : Option Addr) (c1 e1 : Nat) (hk : ∀ k : Int, 1 ≤ k → k ≤ 7 → ¬ m.kd = k) : mtX (bareM m) (bA m A1) (bA m D1) (bN m c1) (bN m e1) = mtX (Mt0 m.kd) none none 0 0 := by
  have n1 := hk 1 (by decide) (by decide)
  have n2 := hk 2 (by decide) (by decide)
  have n3 := hk 3 (by decide) (by decide)
  have n4 := hk 4 (by decide) (by decide)
  have n5 := hk 5 (by decide) (by decide)
  have n6 := hk 6 (by decide) (by decide)
  have n7 := hk 7 (by decide) (by decide)
  have hb : bareM m = Mt0 m.kd := by unfold bareM Mt0; simp [n1, n2, n3, n4, n5, n6, n7]
  rw [hb]; unfold bA bN; simp [n6]
section
attribute [-go_sem] loadCells storeVar
set_option maxRecDepth 100000 in
theorem bare_ret (X : Array Value) (tmps : Array Value) (b : Nat) (W : World) (h2 : tmps[2]?.getD undef = .pointer (some ⟨b, 0, none⟩)) (hK : Blk W b 42 X) (hX : X.size = 17) :
    (results Tryz.f45 tmps).run Tryz.prog W = .ok (.agg X) W := by
  have LC := bk_load (P := Tryz.prog) 17 hK hX
  clear hK
  simp [results, Tryz.results45, go_sem, h2, LC]
set_option maxRecDepth 100000 in
set_option maxHeartbeats 4000000 in
theorem bare_1 (m : Mt) (A1 D1 : Option Addr) (c1 e1 : Nat) (w : World) (hk : m.kd = 1) :
    Calls Tryz.prog 45 #[.agg (mtX m A1 D1 c1 e1)] w fun e w' => e = .returned (.agg (mtX (bareM m) (bA m A1) (bA m D1) (bN m c1) (bN m e1))) ∧ Below w.heap.size w w' := by
  rw [bareM_1 m A1 D1 c1 e1 hk]
  obtain ⟨W0, hW0⟩ : ∃ W0, W0 = (w.alloc (.cells (mtX m A1 D1 c1 e1) 42)).alloc (.cells #[.int .i8 0, .int .i64 0, .int .i64 0, .int .i64 0, .int .i64 0, .int .i64 0, .bool false, .int .i64 0, .int .i8 0, .int .i64 0, .int .i64 0, .int .i64 0, .int .i64 0, .slice none 0 0, .slice none 0 0, .int .i64 0, .int .i64 0] 42) := ⟨_, rfl⟩
  have s0 : W0.heap.size = w.heap.size + 1 + 1 := by rw [hW0]; simp
  have B0 : Below w.heap.size w W0 := by rw [hW0]; exact bal (bal (Below.refl _ _) _) _
  have K0 : Blk W0 w.heap.size 42 (mtX m A1 D1 c1 e1) := by rw [hW0]; exact (Blk.new w 42 _).alloc _
  have KR : Blk W0 (w.heap.size + 1) 42 #[.int .i8 0, .int .i64 0, .int .i64 0, .int .i64 0, .int .i64 0, .int .i64 0, .bool false, .int .i64 0, .int .i8 0, .int .i64 0, .int .i64 0, .int .i64 0, .int .i64 0, .slice none 0 0, .slice none 0 0, .int .i64 0, .int .i64 0] := by rw [hW0]; exact bk_new _ 42 _ (by simp)
  have x0 := mt_cell K0 (j := 0) rfl
  obtain ⟨W1, st1, kk, bb, ss⟩ := bk_fresh (P := Tryz.prog) W0 42 #[.int .i8 0, .int .i64 0, .int .i64 0, .int .i64 0, .int .i64 0, .int .i64 0, .bool false, .int .i64 0, .int .i8 0, .int .i64 0, .int .i64 0, .int .i64 0, .int .i64 0, .slice none 0 0, .slice none 0 0, .int .i64 0, .int .i64 0] #[.int .i8 m.kd, .int .i64 0, .int .i64 0, .int .i64 0, .int .i64 0, .int .i64 0, .bool false, .int .i64 0, .int .i8 0, .int .i64 0, .int .i64 0, .int .i64 0, .int .i64 0, .slice none 0 0, .slice none 0 0, .int .i64 0, .int .i64 0] 17 infoMt rfl rfl (by simp [Value.oneCell'])
  have M1 : MtE W0.heap.size w.heap.size W0.heap.size W0 (mtX m A1 D1 c1 e1) (mtX (Mt0 m.kd) none none 0 0) W1 := ⟨K0.below bb K0.lt, kk, bb, by omega, by omega⟩
  have HW := Lib.hid hW0
  have HB := Lib.hid B0
  have cc1 : (m.kd == 1) = true := by rw [hk]; rfl
  have cc2 : (m.kd == 2) = false := by rw [hk]; rfl
  have cc3 : (m.kd == 3) = false := by rw [hk]; rfl
  have cc4 : (m.kd == 4) = false := by rw [hk]; rfl
  have cc5 : (m.kd == 5) = false := by rw [hk]; rfl
  have cc6 : (m.kd == 6) = false := by rw [hk]; rfl
  have cc7 : (m.kd == 7) = false := by rw [hk]; rfl
  have v0 := mt_cell M1.k1 (j := 0) rfl
  have a2 := mt_cell M1.k1 (j := 1) rfl
  obtain ⟨W2, st2, M2⟩ := M1.int 1 m.tid (mtX { Mt0 m.kd with tid := m.tid } none none 0 0) (by rw [mtX_size]; decide) rfl
  have a3 := mt_cell M2.k1 (j := 2) rfl
  obtain ⟨W3, st3, M3⟩ := M2.int 2 m.tm (mtX { Mt0 m.kd with tid := m.tid, tm := m.tm } none none 0 0) (by rw [mtX_size]; decide) rfl
  have lo := mt_load (P := Tryz.prog) M3.k2
  obtain ⟨W9, st9, k9, fb, _, _⟩ := bk_store (P := Tryz.prog) (ty := 42) (cs := mtX { Mt0 m.kd with tid := m.tid, tm := m.tm } none none 0 0) 17 (KR.below M3.bel KR.lt) infoMt rfl (mtX_size ..) (mtX_one ..)
  have B9 := Lib.hid (fb w.heap.size w (by omega) (B0.trans (M3.bel.mono B0.size)))
  have K9 := Lib.hid k9
  clear hW0 s0 B0 K0 KR kk bb ss hk k9 fb M1 M2 M3
  go_enter Tryz.func45, Tryz.ntmps45
  go_upto_region 1 with (fail)
  rw [← HW.out]
  go_wp2_with fail
  refine bodyPost_ret (v := .agg (mtX { Mt0 m.kd with tid := m.tid, tm := m.tm } none none 0 0)) (bare_ret _ _ (w.heap.size + 1) _ rfl K9.out (mtX_size ..)) rfl ?_
  exact ⟨rfl, B9.out⟩
set_option maxRecDepth 100000 in
set_option maxHeartbeats 4000000 in
theorem bare_2 (m : Mt) (A1 D1 : Option Addr) (c1 e1 : Nat) (w : World) (hk : m.kd = 2) :
    Calls Tryz.prog 45 #[.agg (mtX m A1 D1 c1 e1)] w fun e w' => e = .returned (.agg (mtX (bareM m) (bA m A1) (bA m D1) (bN m c1) (bN m e1))) ∧ Below w.heap.size w w' := by
  rw [bareM_2 m A1 D1 c1 e1 hk]
  obtain ⟨W0, hW0⟩ : ∃ W0, W0 = (w.alloc (.cells (mtX m A1 D1 c1 e1) 42)).alloc (.cells #[.int .i8 0, .int .i64 0, .int .i64 0, .int .i64 0, .int .i64 0, .int .i64 0, .bool false, .int .i64 0, .int .i8 0, .int .i64 0, .int .i64 0, .int .i64 0, .int .i64 0, .slice none 0 0, .slice none 0 0, .int .i64 0, .int .i64 0] 42) := ⟨_, rfl⟩
  have s0 : W0.heap.size = w.heap.size + 1 + 1 := by rw [hW0]; simp
  have B0 : Below w.heap.size w W0 := by rw [hW0]; exact bal (bal (Below.refl _ _) _) _
  have K0 : Blk W0 w.heap.size 42 (mtX m A1 D1 c1 e1) := by rw [hW0]; exact (Blk.new w 42 _).alloc _
  have KR : Blk W0 (w.heap.size + 1) 42 #[.int .i8 0, .int .i64 0, .int .i64 0, .int .i64 0, .int .i64 0, .int .i64 0, .bool false, .int .i64 0, .int .i8 0, .int .i64 0, .int .i64 0, .int .i64 0, .int .i64 0, .slice none 0 0, .slice none 0 0, .int .i64 0, .int .i64 0] := by rw [hW0]; exact bk_new _ 42 _ (by simp)
  have x0 := mt_cell K0 (j := 0) rfl
  obtain ⟨W1, st1, kk, bb, ss⟩ := bk_fresh (P := Tryz.prog) W0 42 #[.int .i8 0, .int .i64 0, .int .i64 0, .int .i64 0, .int .i64 0, .int .i64 0, .bool false, .int .i64 0, .int .i8 0, .int .i64 0, .int .i64 0, .int .i64 0, .int .i64 0, .slice none 0 0, .slice none 0 0, .int .i64 0, .int .i64 0] #[.int .i8 m.kd, .int .i64 0, .int .i64 0, .int .i64 0, .int .i64 0, .int .i64 0, .bool false, .int .i64 0, .int .i8 0, .int .i64 0, .int .i64 0, .int .i64 0, .int .i64 0, .slice none 0 0, .slice none 0 0, .int .i64 0, .int .i64 0] 17 infoMt rfl rfl (by simp [Value.oneCell'])
  have M1 : MtE W0.heap.size w.heap.size W0.heap.size W0 (mtX m A1 D1 c1 e1) (mtX (Mt0 m.kd) none none 0 0) W1 := ⟨K0.below bb K0.lt, kk, bb, by omega, by omega⟩
  have HW := Lib.hid hW0
  have HB := Lib.hid B0
  have cc1 : (m.kd == 1) = false := by rw [hk]; rfl
  have cc2 : (m.kd == 2) = true := by rw [hk]; rfl
  have cc3 : (m.kd == 3) = false := by rw [hk]; rfl
  have cc4 : (m.kd == 4) = false := by rw [hk]; rfl
  have cc5 : (m.kd == 5) = false := by rw [hk]; rfl
  have cc6 : (m.kd == 6) = false := by rw [hk]; rfl
  have cc7 : (m.kd == 7) = false := by rw [hk]; rfl
  have v0 := mt_cell M1.k1 (j := 0) rfl
  have a2 := mt_cell M1.k1 (j := 1) rfl
  obtain ⟨W2, st2, M2⟩ := M1.int 1 m.tid (mtX { Mt0 m.kd with tid := m.tid } none none 0 0) (by rw [mtX_size]; decide) rfl
  have a3 := mt_pend (P := Tryz.prog) M2.k1
  obtain ⟨W3, st3, M3⟩ := M2.pend m.p
  have lo := mt_load (P := Tryz.prog) M3.k2
  obtain ⟨W9, st9, k9, fb, _, _⟩ := bk_store (P := Tryz.prog) (ty := 42) (cs := mtX { Mt0 m.kd with tid := m.tid, p := m.p } none none 0 0) 17 (KR.below M3.bel KR.lt) infoMt rfl (mtX_size ..) (mtX_one ..)
  have B9 := Lib.hid (fb w.heap.size w (by omega) (B0.trans (M3.bel.mono B0.size)))
  have K9 := Lib.hid k9
  clear hW0 s0 B0 K0 KR kk bb ss hk k9 fb M1 M2 M3
  go_enter Tryz.func45, Tryz.ntmps45
  go_upto_region 1 with (fail)
  rw [← HW.out]
  go_wp2_with fail
  refine bodyPost_ret (v := .agg (mtX { Mt0 m.kd with tid := m.tid, p := m.p } none none 0 0)) (bare_ret _ _ (w.heap.size + 1) _ rfl K9.out (mtX_size ..)) rfl ?_
  exact ⟨rfl, B9.out⟩
set_option maxRecDepth 100000 in
set_option maxHeartbeats 4000000 in
theorem bare_3 (m : Mt) (A1 D1 : Option Addr) (c1 e1 : Nat) (w : World) (hk : m.kd = 3) :
    Calls Tryz.prog 45 #[.agg (mtX m A1 D1 c1 e1)] w fun e w' => e = .returned (.agg (mtX (bareM m) (bA m A1) (bA m D1) (bN m c1) (bN m e1))) ∧ Below w.heap.size w w' := by
  rw [bareM_3 m A1 D1 c1 e1 hk]
  obtain ⟨W0, hW0⟩ : ∃ W0, W0 = (w.alloc (.cells (mtX m A1 D1 c1 e1) 42)).alloc (.cells #[.int .i8 0, .int .i64 0, .int .i64 0, .int .i64 0, .int .i64 0, .int .i64 0, .bool false, .int .i64 0, .int .i8 0, .int .i64 0, .int .i64 0, .int .i64 0, .int .i64 0, .slice none 0 0, .slice none 0 0, .int .i64 0, .int .i64 0] 42) := ⟨_, rfl⟩
  have s0 : W0.heap.size = w.heap.size + 1 + 1 := by rw [hW0]; simp
  have B0 : Below w.heap.size w W0 := by rw [hW0]; exact bal (bal (Below.refl _ _) _) _
  have K0 : Blk W0 w.heap.size 42 (mtX m A1 D1 c1 e1) := by rw [hW0]; exact (Blk.new w 42 _).alloc _
  have KR : Blk W0 (w.heap.size + 1) 42 #[.int .i8 0, .int .i64 0, .int .i64 0, .int .i64 0, .int .i64 0, .int .i64 0, .bool false, .int .i64 0, .int .i8 0, .int .i64 0, .int .i64 0, .int .i64 0, .int .i64 0, .slice none 0 0, .slice none 0 0, .int .i64 0, .int .i64 0] := by rw [hW0]; exact bk_new _ 42 _ (by simp)
  have x0 := mt_cell K0 (j := 0) rfl
  obtain ⟨W1, st1, kk, bb, ss⟩ := bk_fresh (P := Tryz.prog) W0 42 #[.int .i8 0, .int .i64 0, .int .i64 0, .int .i64 0, .int .i64 0, .int .i64 0, .bool false, .int .i64 0, .int .i8 0, .int .i64 0, .int .i64 0, .int .i64 0, .int .i64 0, .slice none 0 0, .slice none 0 0, .int .i64 0, .int .i64 0] #[.int .i8 m.kd, .int .i64 0, .int .i64 0, .int .i64 0, .int .i64 0, .int .i64 0, .bool false, .int .i64 0, .int .i8 0, .int .i64 0, .int .i64 0, .int .i64 0, .int .i64 0, .slice none 0 0, .slice none 0 0, .int .i64 0, .int .i64 0] 17 infoMt rfl rfl (by simp [Value.oneCell'])
  have M1 : MtE W0.heap.size w.heap.size W0.heap.size W0 (mtX m A1 D1 c1 e1) (mtX (Mt0 m.kd) none none 0 0) W1 := ⟨K0.below bb K0.lt, kk, bb, by omega, by omega⟩
  have HW := Lib.hid hW0
  have HB := Lib.hid B0
  have cc1 : (m.kd == 1) = false := by rw [hk]; rfl
  have cc2 : (m.kd == 2) = false := by rw [hk]; rfl
  have cc3 : (m.kd == 3) = true := by rw [hk]; rfl
  have cc4 : (m.kd == 4) = false := by rw [hk]; rfl
  have cc5 : (m.kd == 5) = false := by rw [hk]; rfl
  have cc6 : (m.kd == 6) = false := by rw [hk]; rfl
  have cc7 : (m.kd == 7) = false := by rw [hk]; rfl
  have v0 := mt_cell M1.k1 (j := 0) rfl
  have a2 := mt_cell M1.k1 (j := 1) rfl
  obtain ⟨W2, st2, M2⟩ := M1.int 1 m.tid (mtX { Mt0 m.kd with tid := m.tid } none none 0 0) (by rw [mtX_size]; decide) rfl
  have a3 := mt_cell M2.k1 (j := 6) rfl
  obtain ⟨W3, st3, M3⟩ := M2.bool 6 m.yes (mtX { Mt0 m.kd with tid := m.tid, yes := m.yes } none none 0 0) (by rw [mtX_size]; decide) rfl
  have a4 := mt_cell M3.k1 (j := 7) rfl
  obtain ⟨W4, st4, M4⟩ := M3.int 7 m.th (mtX { Mt0 m.kd with tid := m.tid, yes := m.yes, th := m.th } none none 0 0) (by rw [mtX_size]; decide) rfl
  have lo := mt_load (P := Tryz.prog) M4.k2
  obtain ⟨W9, st9, k9, fb, _, _⟩ := bk_store (P := Tryz.prog) (ty := 42) (cs := mtX { Mt0 m.kd with tid := m.tid, yes := m.yes, th := m.th } none none 0 0) 17 (KR.below M4.bel KR.lt) infoMt rfl (mtX_size ..) (mtX_one ..)
  have B9 := Lib.hid (fb w.heap.size w (by omega) (B0.trans (M4.bel.mono B0.size)))
  have K9 := Lib.hid k9
  clear hW0 s0 B0 K0 KR kk bb ss hk k9 fb M1 M2 M3 M4
  go_enter Tryz.func45, Tryz.ntmps45
  go_upto_region 1 with (fail)
  rw [← HW.out]
  go_wp2_with fail
  refine bodyPost_ret (v := .agg (mtX { Mt0 m.kd with tid := m.tid, yes := m.yes, th := m.th } none none 0 0)) (bare_ret _ _ (w.heap.size + 1) _ rfl K9.out (mtX_size ..)) rfl ?_
  exact ⟨rfl, B9.out⟩
set_option maxRecDepth 100000 in
set_option maxHeartbeats 4000000 in
theorem bare_4 (m : Mt) (A1 D1 : Option Addr) (c1 e1 : Nat) (w : World) (hk : m.kd = 4) :
    Calls Tryz.prog 45 #[.agg (mtX m A1 D1 c1 e1)] w fun e w' => e = .returned (.agg (mtX (bareM m) (bA m A1) (bA m D1) (bN m c1) (bN m e1))) ∧ Below w.heap.size w w' := by
  rw [bareM_4 m A1 D1 c1 e1 hk]
  obtain ⟨W0, hW0⟩ : ∃ W0, W0 = (w.alloc (.cells (mtX m A1 D1 c1 e1) 42)).alloc (.cells #[.int .i8 0, .int .i64 0, .int .i64 0, .int .i64 0, .int .i64 0, .int .i64 0, .bool false, .int .i64 0, .int .i8 0, .int .i64 0, .int .i64 0, .int .i64 0, .int .i64 0, .slice none 0 0, .slice none 0 0, .int .i64 0, .int .i64 0] 42) := ⟨_, rfl⟩
  have s0 : W0.heap.size = w.heap.size + 1 + 1 := by rw [hW0]; simp
  have B0 : Below w.heap.size w W0 := by rw [hW0]; exact bal (bal (Below.refl _ _) _) _
  have K0 : Blk W0 w.heap.size 42 (mtX m A1 D1 c1 e1) := by rw [hW0]; exact (Blk.new w 42 _).alloc _
  have KR : Blk W0 (w.heap.size + 1) 42 #[.int .i8 0, .int .i64 0, .int .i64 0, .int .i64 0, .int .i64 0, .int .i64 0, .bool false, .int .i64 0, .int .i8 0, .int .i64 0, .int .i64 0, .int .i64 0, .int .i64 0, .slice none 0 0, .slice none 0 0, .int .i64 0, .int .i64 0] := by rw [hW0]; exact bk_new _ 42 _ (by simp)
  have x0 := mt_cell K0 (j := 0) rfl
  obtain ⟨W1, st1, kk, bb, ss⟩ := bk_fresh (P := Tryz.prog) W0 42 #[.int .i8 0, .int .i64 0, .int .i64 0, .int .i64 0, .int .i64 0, .int .i64 0, .bool false, .int .i64 0, .int .i8 0, .int .i64 0, .int .i64 0, .int .i64 0, .int .i64 0, .slice none 0 0, .slice none 0 0, .int .i64 0, .int .i64 0] #[.int .i8 m.kd, .int .i64 0, .int .i64 0, .int .i64 0, .int .i64 0, .int .i64 0, .bool false, .int .i64 0, .int .i8 0, .int .i64 0, .int .i64 0, .int .i64 0, .int .i64 0, .slice none 0 0, .slice none 0 0, .int .i64 0, .int .i64 0] 17 infoMt rfl rfl (by simp [Value.oneCell'])
  have M1 : MtE W0.heap.size w.heap.size W0.heap.size W0 (mtX m A1 D1 c1 e1) (mtX (Mt0 m.kd) none none 0 0) W1 := ⟨K0.below bb K0.lt, kk, bb, by omega, by omega⟩
  have HW := Lib.hid hW0
  have HB := Lib.hid B0
  have cc1 : (m.kd == 1) = false := by rw [hk]; rfl
  have cc2 : (m.kd == 2) = false := by rw [hk]; rfl
  have cc3 : (m.kd == 3) = false := by rw [hk]; rfl
  have cc4 : (m.kd == 4) = true := by rw [hk]; rfl
  have cc5 : (m.kd == 5) = false := by rw [hk]; rfl
  have cc6 : (m.kd == 6) = false := by rw [hk]; rfl
  have cc7 : (m.kd == 7) = false := by rw [hk]; rfl
  have v0 := mt_cell M1.k1 (j := 0) rfl
  have a2 := mt_cell M1.k1 (j := 1) rfl
  obtain ⟨W2, st2, M2⟩ := M1.int 1 m.tid (mtX { Mt0 m.kd with tid := m.tid } none none 0 0) (by rw [mtX_size]; decide) rfl
  have lo := mt_load (P := Tryz.prog) M2.k2
  obtain ⟨W9, st9, k9, fb, _, _⟩ := bk_store (P := Tryz.prog) (ty := 42) (cs := mtX { Mt0 m.kd with tid := m.tid } none none 0 0) 17 (KR.below M2.bel KR.lt) infoMt rfl (mtX_size ..) (mtX_one ..)
  have B9 := Lib.hid (fb w.heap.size w (by omega) (B0.trans (M2.bel.mono B0.size)))
  have K9 := Lib.hid k9
  clear hW0 s0 B0 K0 KR kk bb ss hk k9 fb M1 M2
  go_enter Tryz.func45, Tryz.ntmps45
  go_upto_region 1 with (fail)
  rw [← HW.out]
  go_wp2_with fail
  refine bodyPost_ret (v := .agg (mtX { Mt0 m.kd with tid := m.tid } none none 0 0)) (bare_ret _ _ (w.heap.size + 1) _ rfl K9.out (mtX_size ..)) rfl ?_
  exact ⟨rfl, B9.out⟩
set_option maxRecDepth 100000 in
set_option maxHeartbeats 4000000 in
theorem bare_5 (m : Mt) (A1 D1 : Option Addr) (c1 e1 : Nat) (w : World) (hk : m.kd = 5) :
    Calls Tryz.prog 45 #[.agg (mtX m A1 D1 c1 e1)] w fun e w' => e = .returned (.agg (mtX (bareM m) (bA m A1) (bA m D1) (bN m c1) (bN m e1))) ∧ Below w.heap.size w w' := by
  rw [bareM_5 m A1 D1 c1 e1 hk]
  obtain ⟨W0, hW0⟩ : ∃ W0, W0 = (w.alloc (.cells (mtX m A1 D1 c1 e1) 42)).alloc (.cells #[.int .i8 0, .int .i64 0, .int .i64 0, .int .i64 0, .int .i64 0, .int .i64 0, .bool false, .int .i64 0, .int .i8 0, .int .i64 0, .int .i64 0, .int .i64 0, .int .i64 0, .slice none 0 0, .slice none 0 0, .int .i64 0, .int .i64 0] 42) := ⟨_, rfl⟩
  have s0 : W0.heap.size = w.heap.size + 1 + 1 := by rw [hW0]; simp
  have B0 : Below w.heap.size w W0 := by rw [hW0]; exact bal (bal (Below.refl _ _) _) _
  have K0 : Blk W0 w.heap.size 42 (mtX m A1 D1 c1 e1) := by rw [hW0]; exact (Blk.new w 42 _).alloc _
  have KR : Blk W0 (w.heap.size + 1) 42 #[.int .i8 0, .int .i64 0, .int .i64 0, .int .i64 0, .int .i64 0, .int .i64 0, .bool false, .int .i64 0, .int .i8 0, .int .i64 0, .int .i64 0, .int .i64 0, .int .i64 0, .slice none 0 0, .slice none 0 0, .int .i64 0, .int .i64 0] := by rw [hW0]; exact bk_new _ 42 _ (by simp)
  have x0 := mt_cell K0 (j := 0) rfl
  obtain ⟨W1, st1, kk, bb, ss⟩ := bk_fresh (P := Tryz.prog) W0 42 #[.int .i8 0, .int .i64 0, .int .i64 0, .int .i64 0, .int .i64 0, .int .i64 0, .bool false, .int .i64 0, .int .i8 0, .int .i64 0, .int .i64 0, .int .i64 0, .int .i64 0, .slice none 0 0, .slice none 0 0, .int .i64 0, .int .i64 0] #[.int .i8 m.kd, .int .i64 0, .int .i64 0, .int .i64 0, .int .i64 0, .int .i64 0, .bool false, .int .i64 0, .int .i8 0, .int .i64 0, .int .i64 0, .int .i64 0, .int .i64 0, .slice none 0 0, .slice none 0 0, .int .i64 0, .int .i64 0] 17 infoMt rfl rfl (by simp [Value.oneCell'])
  have M1 : MtE W0.heap.size w.heap.size W0.heap.size W0 (mtX m A1 D1 c1 e1) (mtX (Mt0 m.kd) none none 0 0) W1 := ⟨K0.below bb K0.lt, kk, bb, by omega, by omega⟩
  have HW := Lib.hid hW0
  have HB := Lib.hid B0
  have cc1 : (m.kd == 1) = false := by rw [hk]; rfl
  have cc2 : (m.kd == 2) = false := by rw [hk]; rfl
  have cc3 : (m.kd == 3) = false := by rw [hk]; rfl
  have cc4 : (m.kd == 4) = false := by rw [hk]; rfl
  have cc5 : (m.kd == 5) = true := by rw [hk]; rfl
  have cc6 : (m.kd == 6) = false := by rw [hk]; rfl
  have cc7 : (m.kd == 7) = false := by rw [hk]; rfl
  have v0 := mt_cell M1.k1 (j := 0) rfl
  have a2 := mt_pend (P := Tryz.prog) M1.k1
  obtain ⟨W2, st2, M2⟩ := M1.pend m.p
  have lo := mt_load (P := Tryz.prog) M2.k2
  obtain ⟨W9, st9, k9, fb, _, _⟩ := bk_store (P := Tryz.prog) (ty := 42) (cs := mtX { Mt0 m.kd with p := m.p } none none 0 0) 17 (KR.below M2.bel KR.lt) infoMt rfl (mtX_size ..) (mtX_one ..)
  have B9 := Lib.hid (fb w.heap.size w (by omega) (B0.trans (M2.bel.mono B0.size)))
  have K9 := Lib.hid k9
  clear hW0 s0 B0 K0 KR kk bb ss hk k9 fb M1 M2
  go_enter Tryz.func45, Tryz.ntmps45
  go_upto_region 1 with (fail)
  rw [← HW.out]
  go_wp2_with fail
  refine bodyPost_ret (v := .agg (mtX { Mt0 m.kd with p := m.p } none none 0 0)) (bare_ret _ _ (w.heap.size + 1) _ rfl K9.out (mtX_size ..)) rfl ?_
  exact ⟨rfl, B9.out⟩
set_option maxRecDepth 100000 in
set_option maxHeartbeats 4000000 in
theorem bare_6 (m : Mt) (A1 D1 : Option Addr) (c1 e1 : Nat) (w : World) (hk : m.kd = 6) :
    Calls Tryz.prog 45 #[.agg (mtX m A1 D1 c1 e1)] w fun e w' => e = .returned (.agg (mtX (bareM m) (bA m A1) (bA m D1) (bN m c1) (bN m e1))) ∧ Below w.heap.size w w' := by
  rw [bareM_6 m A1 D1 c1 e1 hk]
  obtain ⟨W0, hW0⟩ : ∃ W0, W0 = (w.alloc (.cells (mtX m A1 D1 c1 e1) 42)).alloc (.cells #[.int .i8 0, .int .i64 0, .int .i64 0, .int .i64 0, .int .i64 0, .int .i64 0, .bool false, .int .i64 0, .int .i8 0, .int .i64 0, .int .i64 0, .int .i64 0, .int .i64 0, .slice none 0 0, .slice none 0 0, .int .i64 0, .int .i64 0] 42) := ⟨_, rfl⟩
  have s0 : W0.heap.size = w.heap.size + 1 + 1 := by rw [hW0]; simp
  have B0 : Below w.heap.size w W0 := by rw [hW0]; exact bal (bal (Below.refl _ _) _) _
  have K0 : Blk W0 w.heap.size 42 (mtX m A1 D1 c1 e1) := by rw [hW0]; exact (Blk.new w 42 _).alloc _
  have KR : Blk W0 (w.heap.size + 1) 42 #[.int .i8 0, .int .i64 0, .int .i64 0, .int .i64 0, .int .i64 0, .int .i64 0, .bool false, .int .i64 0, .int .i8 0, .int .i64 0, .int .i64 0, .int .i64 0, .int .i64 0, .slice none 0 0, .slice none 0 0, .int .i64 0, .int .i64 0] := by rw [hW0]; exact bk_new _ 42 _ (by simp)
  have x0 := mt_cell K0 (j := 0) rfl
  obtain ⟨W1, st1, kk, bb, ss⟩ := bk_fresh (P := Tryz.prog) W0 42 #[.int .i8 0, .int .i64 0, .int .i64 0, .int .i64 0, .int .i64 0, .int .i64 0, .bool false, .int .i64 0, .int .i8 0, .int .i64 0, .int .i64 0, .int .i64 0, .int .i64 0, .slice none 0 0, .slice none 0 0, .int .i64 0, .int .i64 0] #[.int .i8 m.kd, .int .i64 0, .int .i64 0, .int .i64 0, .int .i64 0, .int .i64 0, .bool false, .int .i64 0, .int .i8 0, .int .i64 0, .int .i64 0, .int .i64 0, .int .i64 0, .slice none 0 0, .slice none 0 0, .int .i64 0, .int .i64 0] 17 infoMt rfl rfl (by simp [Value.oneCell'])
  have M1 : MtE W0.heap.size w.heap.size W0.heap.size W0 (mtX m A1 D1 c1 e1) (mtX (Mt0 m.kd) none none 0 0) W1 := ⟨K0.below bb K0.lt, kk, bb, by omega, by omega⟩
  have HW := Lib.hid hW0
  have HB := Lib.hid B0
  have cc1 : (m.kd == 1) = false := by rw [hk]; rfl
  have cc2 : (m.kd == 2) = false := by rw [hk]; rfl
  have cc3 : (m.kd == 3) = false := by rw [hk]; rfl
  have cc4 : (m.kd == 4) = false := by rw [hk]; rfl
  have cc5 : (m.kd == 5) = false := by rw [hk]; rfl
  have cc6 : (m.kd == 6) = true := by rw [hk]; rfl
  have cc7 : (m.kd == 7) = false := by rw [hk]; rfl
  have v0 := mt_cell M1.k1 (j := 0) rfl
  have a2 := mt_cell M1.k1 (j := 1) rfl
  obtain ⟨W2, st2, M2⟩ := M1.int 1 m.tid (mtX { Mt0 m.kd with tid := m.tid } none none 0 0) (by rw [mtX_size]; decide) rfl
  have a3 := mt_co (P := Tryz.prog) M2.k1
  obtain ⟨W3, st3, M3⟩ := M2.co m.c A1 D1 c1 e1
  have lo := mt_load (P := Tryz.prog) M3.k2
  obtain ⟨W9, st9, k9, fb, _, _⟩ := bk_store (P := Tryz.prog) (ty := 42) (cs := mtX { Mt0 m.kd with tid := m.tid, c := m.c } A1 D1 c1 e1) 17 (KR.below M3.bel KR.lt) infoMt rfl (mtX_size ..) (mtX_one ..)
  have B9 := Lib.hid (fb w.heap.size w (by omega) (B0.trans (M3.bel.mono B0.size)))
  have K9 := Lib.hid k9
  clear hW0 s0 B0 K0 KR kk bb ss hk k9 fb M1 M2 M3
  go_enter Tryz.func45, Tryz.ntmps45
  go_upto_region 1 with (fail)
  rw [← HW.out]
  go_wp2_with fail
  refine bodyPost_ret (v := .agg (mtX { Mt0 m.kd with tid := m.tid, c := m.c } A1 D1 c1 e1)) (bare_ret _ _ (w.heap.size + 1) _ rfl K9.out (mtX_size ..)) rfl ?_
  exact ⟨rfl, B9.out⟩
set_option maxRecDepth 100000 in
set_option maxHeartbeats 4000000 in
theorem bare_7 (m : Mt) (A1 D1 : Option Addr) (c1 e1 : Nat) (w : World) (hk : m.kd = 7) :
    Calls Tryz.prog 45 #[.agg (mtX m A1 D1 c1 e1)] w fun e w' => e = .returned (.agg (mtX (bareM m) (bA m A1) (bA m D1) (bN m c1) (bN m e1))) ∧ Below w.heap.size w w' := by
  rw [bareM_7 m A1 D1 c1 e1 hk]
  obtain ⟨W0, hW0⟩ : ∃ W0, W0 = (w.alloc (.cells (mtX m A1 D1 c1 e1) 42)).alloc (.cells #[.int .i8 0, .int .i64 0, .int .i64 0, .int .i64 0, .int .i64 0, .int .i64 0, .bool false, .int .i64 0, .int .i8 0, .int .i64 0, .int .i64 0, .int .i64 0, .int .i64 0, .slice none 0 0, .slice none 0 0, .int .i64 0, .int .i64 0] 42) := ⟨_, rfl⟩
  have s0 : W0.heap.size = w.heap.size + 1 + 1 := by rw [hW0]; simp
  have B0 : Below w.heap.size w W0 := by rw [hW0]; exact bal (bal (Below.refl _ _) _) _
  have K0 : Blk W0 w.heap.size 42 (mtX m A1 D1 c1 e1) := by rw [hW0]; exact (Blk.new w 42 _).alloc _
  have KR : Blk W0 (w.heap.size + 1) 42 #[.int .i8 0, .int .i64 0, .int .i64 0, .int .i64 0, .int .i64 0, .int .i64 0, .bool false, .int .i64 0, .int .i8 0, .int .i64 0, .int .i64 0, .int .i64 0, .int .i64 0, .slice none 0 0, .slice none 0 0, .int .i64 0, .int .i64 0] := by rw [hW0]; exact bk_new _ 42 _ (by simp)
  have x0 := mt_cell K0 (j := 0) rfl
  obtain ⟨W1, st1, kk, bb, ss⟩ := bk_fresh (P := Tryz.prog) W0 42 #[.int .i8 0, .int .i64 0, .int .i64 0, .int .i64 0, .int .i64 0, .int .i64 0, .bool false, .int .i64 0, .int .i8 0, .int .i64 0, .int .i64 0, .int .i64 0, .int .i64 0, .slice none 0 0, .slice none 0 0, .int .i64 0, .int .i64 0] #[.int .i8 m.kd, .int .i64 0, .int .i64 0, .int .i64 0, .int .i64 0, .int .i64 0, .bool false, .int .i64 0, .int .i8 0, .int .i64 0, .int .i64 0, .int .i64 0, .int .i64 0, .slice none 0 0, .slice none 0 0, .int .i64 0, .int .i64 0] 17 infoMt rfl rfl (by simp [Value.oneCell'])
  have M1 : MtE W0.heap.size w.heap.size W0.heap.size W0 (mtX m A1 D1 c1 e1) (mtX (Mt0 m.kd) none none 0 0) W1 := ⟨K0.below bb K0.lt, kk, bb, by omega, by omega⟩
  have HW := Lib.hid hW0
  have HB := Lib.hid B0
  have cc1 : (m.kd == 1) = false := by rw [hk]; rfl
  have cc2 : (m.kd == 2) = false := by rw [hk]; rfl
  have cc3 : (m.kd == 3) = false := by rw [hk]; rfl
  have cc4 : (m.kd == 4) = false := by rw [hk]; rfl
  have cc5 : (m.kd == 5) = false := by rw [hk]; rfl
  have cc6 : (m.kd == 6) = false := by rw [hk]; rfl
  have cc7 : (m.kd == 7) = true := by rw [hk]; rfl
  have v0 := mt_cell M1.k1 (j := 0) rfl
  have a2 := mt_cell M1.k1 (j := 16) rfl
  obtain ⟨W2, st2, M2⟩ := M1.int 16 m.nx (mtX { Mt0 m.kd with nx := m.nx } none none 0 0) (by rw [mtX_size]; decide) rfl
  have lo := mt_load (P := Tryz.prog) M2.k2
  obtain ⟨W9, st9, k9, fb, _, _⟩ := bk_store (P := Tryz.prog) (ty := 42) (cs := mtX { Mt0 m.kd with nx := m.nx } none none 0 0) 17 (KR.below M2.bel KR.lt) infoMt rfl (mtX_size ..) (mtX_one ..)
  have B9 := Lib.hid (fb w.heap.size w (by omega) (B0.trans (M2.bel.mono B0.size)))
  have K9 := Lib.hid k9
  clear hW0 s0 B0 K0 KR kk bb ss hk k9 fb M1 M2
  go_enter Tryz.func45, Tryz.ntmps45
  go_upto_region 1 with (fail)
  rw [← HW.out]
  go_wp2_with fail
  refine bodyPost_ret (v := .agg (mtX { Mt0 m.kd with nx := m.nx } none none 0 0)) (bare_ret _ _ (w.heap.size + 1) _ rfl K9.out (mtX_size ..)) rfl ?_
  exact ⟨rfl, B9.out⟩
set_option maxRecDepth 100000 in
set_option maxHeartbeats 4000000 in
theorem bare_0 (m : Mt) (A1 D1 : Option Addr) (c1 e1 : Nat) (w : World) (hk : ∀ k : Int, 1 ≤ k → k ≤ 7 → ¬ m.kd = k) :
    Calls Tryz.prog 45 #[.agg (mtX m A1 D1 c1 e1)] w fun e w' => e = .returned (.agg (mtX (bareM m) (bA m A1) (bA m D1) (bN m c1) (bN m e1))) ∧ Below w.heap.size w w' := by
  rw [bareM_no m A1 D1 c1 e1 hk]
  obtain ⟨W0, hW0⟩ : ∃ W0, W0 = (w.alloc (.cells (mtX m A1 D1 c1 e1) 42)).alloc (.cells #[.int .i8 0, .int .i64 0, .int .i64 0, .int .i64 0, .int .i64 0, .int .i64 0, .bool false, .int .i64 0, .int .i8 0, .int .i64 0, .int .i64 0, .int .i64 0, .int .i64 0, .slice none 0 0, .slice none 0 0, .int .i64 0, .int .i64 0] 42) := ⟨_, rfl⟩
  have s0 : W0.heap.size = w.heap.size + 1 + 1 := by rw [hW0]; simp
  have B0 : Below w.heap.size w W0 := by rw [hW0]; exact bal (bal (Below.refl _ _) _) _
  have K0 : Blk W0 w.heap.size 42 (mtX m A1 D1 c1 e1) := by rw [hW0]; exact (Blk.new w 42 _).alloc _
  have KR : Blk W0 (w.heap.size + 1) 42 #[.int .i8 0, .int .i64 0, .int .i64 0, .int .i64 0, .int .i64 0, .int .i64 0, .bool false, .int .i64 0, .int .i8 0, .int .i64 0, .int .i64 0, .int .i64 0, .int .i64 0, .slice none 0 0, .slice none 0 0, .int .i64 0, .int .i64 0] := by rw [hW0]; exact bk_new _ 42 _ (by simp)
  have x0 := mt_cell K0 (j := 0) rfl
  obtain ⟨W1, st1, kk, bb, ss⟩ := bk_fresh (P := Tryz.prog) W0 42 #[.int .i8 0, .int .i64 0, .int .i64 0, .int .i64 0, .int .i64 0, .int .i64 0, .bool false, .int .i64 0, .int .i8 0, .int .i64 0, .int .i64 0, .int .i64 0, .int .i64 0, .slice none 0 0, .slice none 0 0, .int .i64 0, .int .i64 0] #[.int .i8 m.kd, .int .i64 0, .int .i64 0, .int .i64 0, .int .i64 0, .int .i64 0, .bool false, .int .i64 0, .int .i8 0, .int .i64 0, .int .i64 0, .int .i64 0, .int .i64 0, .slice none 0 0, .slice none 0 0, .int .i64 0, .int .i64 0] 17 infoMt rfl rfl (by simp [Value.oneCell'])
  have M1 : MtE W0.heap.size w.heap.size W0.heap.size W0 (mtX m A1 D1 c1 e1) (mtX (Mt0 m.kd) none none 0 0) W1 := ⟨K0.below bb K0.lt, kk, bb, by omega, by omega⟩
  have HW := Lib.hid hW0
  have HB := Lib.hid B0
  have cc1 : (m.kd == 1) = false := by simpa using hk 1 (by decide) (by decide)
  have cc2 : (m.kd == 2) = false := by simpa using hk 2 (by decide) (by decide)
  have cc3 : (m.kd == 3) = false := by simpa using hk 3 (by decide) (by decide)
  have cc4 : (m.kd == 4) = false := by simpa using hk 4 (by decide) (by decide)
  have cc5 : (m.kd == 5) = false := by simpa using hk 5 (by decide) (by decide)
  have cc6 : (m.kd == 6) = false := by simpa using hk 6 (by decide) (by decide)
  have cc7 : (m.kd == 7) = false := by simpa using hk 7 (by decide) (by decide)
  have v0 := mt_cell M1.k1 (j := 0) rfl
  have lo := mt_load (P := Tryz.prog) M1.k2
  obtain ⟨W9, st9, k9, fb, _, _⟩ := bk_store (P := Tryz.prog) (ty := 42) (cs := mtX (Mt0 m.kd) none none 0 0) 17 (KR.below M1.bel KR.lt) infoMt rfl (mtX_size ..) (mtX_one ..)
  have B9 := Lib.hid (fb w.heap.size w (by omega) (B0.trans (M1.bel.mono B0.size)))
  have K9 := Lib.hid k9
  clear hW0 s0 B0 K0 KR kk bb ss hk k9 fb M1
  go_enter Tryz.func45, Tryz.ntmps45
  go_upto_region 1 with (fail)
  rw [← HW.out]
  go_wp2_with fail
  refine bodyPost_ret (v := .agg (mtX (Mt0 m.kd) none none 0 0)) (bare_ret _ _ (w.heap.size + 1) _ rfl K9.out (mtX_size ..)) rfl ?_
  exact ⟨rfl, B9.out⟩
theorem bare_all (m : Mt) (A1 D1 : Option Addr) (c1 e1 : Nat) (w : World) :
    Calls Tryz.prog 45 #[.agg (mtX m A1 D1 c1 e1)] w fun e w' => e = .returned (.agg (mtX (bareM m) (bA m A1) (bA m D1) (bN m c1) (bN m e1))) ∧ Below w.heap.size w w' := by
  by_cases q1 : m.kd = 1
  · exact bare_1 m A1 D1 c1 e1 w q1
  by_cases q2 : m.kd = 2
  · exact bare_2 m A1 D1 c1 e1 w q2
  by_cases q3 : m.kd = 3
  · exact bare_3 m A1 D1 c1 e1 w q3
  by_cases q4 : m.kd = 4
  · exact bare_4 m A1 D1 c1 e1 w q4
  by_cases q5 : m.kd = 5
  · exact bare_5 m A1 D1 c1 e1 w q5
  by_cases q6 : m.kd = 6
  · exact bare_6 m A1 D1 c1 e1 w q6
  by_cases q7 : m.kd = 7
  · exact bare_7 m A1 D1 c1 e1 w q7
  exact bare_0 m A1 D1 c1 e1 w (fun k h8 h9 => by rcases (show k = 1 ∨ k = 2 ∨ k = 3 ∨ k = 4 ∨ k = 5 ∨ k = 6 ∨ k = 7 by omega) with rfl | rfl | rfl | rfl | rfl | rfl | rfl <;> assumption)
set_option maxRecDepth 100000 in
set_option maxHeartbeats 1000000 in
theorem within_any (n a b : Int) (w : World) : Calls Tryz.prog 46 #[.int .i64 n, .int .i64 a, .int .i64 b] w fun e w' => e = .returned (.bool (inB n a b)) ∧ w = w' := by
  unfold inB
  cases h1 : decide (a ≤ n)
  · go_enter Tryz.func46, Tryz.ntmps46
    go_wp2_with fail
    go_ret
    exact ⟨by simp, rfl⟩
  · go_enter Tryz.func46, Tryz.ntmps46
    go_wp2_with fail
    go_ret
    exact ⟨by simp, rfl⟩
set_option maxRecDepth 100000 in
set_option maxHeartbeats 4000000 in
theorem rpend_any (p : Pd) (w : World) : Calls Tryz.prog 47 #[.agg #[.int .i64 p.1, .int .i64 p.2.1, .int .i64 p.2.2]] w fun e w' => e = .returned (.bool (pendB p)) ∧ Below w.heap.size w w' := by
  obtain ⟨W0, hW0⟩ : ∃ W0, W0 = w.alloc (.cells #[.int .i64 p.1, .int .i64 p.2.1, .int .i64 p.2.2] 40) := ⟨_, rfl⟩
  have B0 : Below w.heap.size w W0 := by rw [hW0]; exact bal (Below.refl _ _) _
  have K1 : Blk W0 w.heap.size 40 #[.int .i64 p.1, .int .i64 p.2.1, .int .i64 p.2.2] := by rw [hW0]; exact Blk.new w 40 _
  have HW := Lib.hid hW0
  have HB := Lib.hid B0
  have x0 := K1.cell 0
  have x1 := K1.cell 1
  have x2 := K1.cell 2
  have hp : pendB p = (inB p.1 0 1 && (inB p.2.1 0 2 && inB p.2.2 0 1048576)) := by
    have e1 : decide (p.1 < 2) = decide (p.1 ≤ 1) := decide_eq_decide.2 (by omega)
    have e2 : decide (p.2.1 < 3) = decide (p.2.1 ≤ 2) := decide_eq_decide.2 (by omega)
    unfold pendB partB inB
    rw [e1, e2]
    simp only [Bool.and_assoc]
  have HP := Lib.hid hp
  have I0 := Lib.hid (fun W => within_any p.1 0 1 W)
  have I1 := Lib.hid (fun W => within_any p.2.1 0 2 W)
  have I2 := Lib.hid (fun W => within_any p.2.2 0 1048576 W)
  clear hW0 B0 K1 hp
  generalize inB p.1 0 1 = u0 at HP I0
  generalize inB p.2.1 0 2 = u1 at HP I1
  generalize inB p.2.2 0 1048576 = u2 at HP I2
  go_enter Tryz.func47, Tryz.ntmps47
  go_upto_region 1 with (fail)
  rw [← HW.out]
  go_wp2_with fail
  refine (I0.out _).mono ?_
  rintro e w3 ⟨rfl, rfl⟩
  cases u0
  · go_wp2_with fail
    go_ret
    rw [HP.out]
    exact ⟨by simp, HB.out⟩
  go_wp2_with fail
  refine (I1.out _).mono ?_
  rintro e w3 ⟨rfl, rfl⟩
  cases u1
  · go_wp2_with fail
    go_ret
    rw [HP.out]
    exact ⟨by simp, HB.out⟩
  go_wp2_with fail
  refine (I2.out _).mono ?_
  rintro e w3 ⟨rfl, rfl⟩
  go_wp2_with fail
  go_ret
  rw [HP.out]
  exact ⟨by simp, HB.out⟩
set_option maxRecDepth 100000 in
set_option maxHeartbeats 8000000 in
theorem rMayM_0 (m : Mt) (A1 D1 : Option Addr) (c1 e1 B : Nat) (w : World) (h1 : CoR w B m.c A1 D1) (hB : B ≤ w.heap.size) (h8 : -128 ≤ m.c.st) (h9 : m.c.st ≤ 127) (hk : m.kd = 0) :
    Calls Tryz.prog 19 #[.agg (mtX m A1 D1 c1 e1)] w fun e w' => e = .returned (.bool (mayM m)) ∧ Below w.heap.size w w' := by
  obtain ⟨W0, hW0⟩ : ∃ W0, W0 = w.alloc (.cells (mtX m A1 D1 c1 e1) 42) := ⟨_, rfl⟩
  have B0 : Below w.heap.size w W0 := by rw [hW0]; exact bal (Below.refl _ _) _
  have K0 : Blk W0 w.heap.size 42 (mtX m A1 D1 c1 e1) := by rw [hW0]; exact Blk.new w 42 _
  have HW := Lib.hid hW0
  have HB := Lib.hid B0
  have HK := Lib.hid K0
  have lt0 := K0.lt
  have lm := fun n : BW W0.heap.size W0 => mt_load (P := Tryz.prog) (K0.below n.2 K0.lt)
  have ct := fun n : BW W0.heap.size W0 => bw_cell (mt_cell K0 (j := 1) rfl) lt0 n
  have BA := Lib.hid (fun W (h : Below W0.heap.size W0 W) => bare_all m A1 D1 c1 e1 W)
  have SA := Lib.hid (fun W (h : Below W0.heap.size W0 W) => rSameM_any m (bareM m) A1 D1 (bA m A1) (bA m D1) c1 e1 (bN m c1) (bN m e1) B B W (h1.below ((B0.trans (h.mono B0.size)).mono hB)) (bare_R (h1.below ((B0.trans (h.mono B0.size)).mono hB))) (Nat.le_trans hB (Nat.le_trans B0.size h.size)) (Nat.le_trans hB (Nat.le_trans B0.size h.size)))
  have WI := Lib.hid (fun W => within_any m.tid 0 2 W)
  have HM := Lib.hid (show mayM m = (sameM m (bareM m) && (inB m.tid 0 2 && fitM m)) by
    have e2 : decide (m.tid < 3) = decide (m.tid ≤ 2) := decide_eq_decide.2 (by omega)
    unfold mayM inB
    rw [e2, Bool.and_assoc])
  have HF := Lib.hid (show fitM m = true by unfold fitM; simp [hk])
  generalize sameM m (bareM m) = u at HM SA
  generalize inB m.tid 0 2 = v at HM WI
  have cc0 : (m.kd == 0) = true := by rw [hk]; rfl
  have cc4 : (m.kd == 4) = false := by rw [hk]; rfl
  have cc3 : (m.kd == 3) = false := by rw [hk]; rfl
  have cc1 : (m.kd == 1) = false := by rw [hk]; rfl
  have cc2 : (m.kd == 2) = false := by rw [hk]; rfl
  have cc5 : (m.kd == 5) = false := by rw [hk]; rfl
  have cc6 : (m.kd == 6) = false := by rw [hk]; rfl
  have cc7 : (m.kd == 7) = false := by rw [hk]; rfl
  clear hW0 B0 K0 h1 hB h8 h9 hk
  cases u
  · skip
    go_enter Tryz.func19, Tryz.ntmps19
    go_upto_region 1 with (fail)
    rw [← HW.out]
    refine wp_region_bq W0.heap.size (by kernel_rfl) (by kernel_rfl) ?_
    repeat (go_big_quiet_step (first | (go_at_call 45; exact bw_call (Nat.le_refl _) (BA.out _ (by exact Subtype.property _))) | (go_at_call 21; exact bw_call (Nat.le_refl _) (SA.out _ (by exact Subtype.property _))) | (go_at_call 46; exact bw_same (WI.out _))))
    refine wpQuiet_nil ?_
    rintro _ ⟨n, rfl⟩
    have BN := Lib.hid n.2
    clear lm ct
    go_wp2_with fail
    go_ret
    rw [HM.out]
    exact ⟨by simp, HB.out.trans (BN.out.mono HB.out.size)⟩
  cases v
  · skip
    go_enter Tryz.func19, Tryz.ntmps19
    go_upto_region 1 with (fail)
    rw [← HW.out]
    refine wp_region_bq W0.heap.size (by kernel_rfl) (by kernel_rfl) ?_
    repeat (go_big_quiet_step (first | (go_at_call 45; exact bw_call (Nat.le_refl _) (BA.out _ (by exact Subtype.property _))) | (go_at_call 21; exact bw_call (Nat.le_refl _) (SA.out _ (by exact Subtype.property _))) | (go_at_call 46; exact bw_same (WI.out _))))
    refine wpQuiet_nil ?_
    rintro _ ⟨n, rfl⟩
    have BN := Lib.hid n.2
    clear lm ct
    go_wp2_with fail
    go_ret
    rw [HM.out]
    exact ⟨by simp, HB.out.trans (BN.out.mono HB.out.size)⟩
  go_enter Tryz.func19, Tryz.ntmps19
  go_upto_region 1 with (fail)
  rw [← HW.out]
  refine wp_region_bq W0.heap.size (by kernel_rfl) (by kernel_rfl) ?_
  repeat (go_big_quiet_step (first | (go_at_call 45; exact bw_call (Nat.le_refl _) (BA.out _ (by exact Subtype.property _))) | (go_at_call 21; exact bw_call (Nat.le_refl _) (SA.out _ (by exact Subtype.property _))) | (go_at_call 46; exact bw_same (WI.out _))))
  refine wpQuiet_nil ?_
  rintro _ ⟨n, rfl⟩
  have BN := Lib.hid n.2
  clear lm ct
  have KN := Lib.hid (HK.out.below BN.out HK.out.lt)
  have x0 := mt_cell KN.out (j := 0) rfl
  go_wp2_with fail
  go_ret
  rw [HM.out, HF.out]
  exact ⟨by simp, HB.out.trans (BN.out.mono HB.out.size)⟩
set_option maxRecDepth 100000 in
set_option maxHeartbeats 8000000 in
theorem rMayM_4 (m : Mt) (A1 D1 : Option Addr) (c1 e1 B : Nat) (w : World) (h1 : CoR w B m.c A1 D1) (hB : B ≤ w.heap.size) (h8 : -128 ≤ m.c.st) (h9 : m.c.st ≤ 127) (hk : m.kd = 4) :
    Calls Tryz.prog 19 #[.agg (mtX m A1 D1 c1 e1)] w fun e w' => e = .returned (.bool (mayM m)) ∧ Below w.heap.size w w' := by
  obtain ⟨W0, hW0⟩ : ∃ W0, W0 = w.alloc (.cells (mtX m A1 D1 c1 e1) 42) := ⟨_, rfl⟩
  have B0 : Below w.heap.size w W0 := by rw [hW0]; exact bal (Below.refl _ _) _
  have K0 : Blk W0 w.heap.size 42 (mtX m A1 D1 c1 e1) := by rw [hW0]; exact Blk.new w 42 _
  have HW := Lib.hid hW0
  have HB := Lib.hid B0
  have HK := Lib.hid K0
  have lt0 := K0.lt
  have lm := fun n : BW W0.heap.size W0 => mt_load (P := Tryz.prog) (K0.below n.2 K0.lt)
  have ct := fun n : BW W0.heap.size W0 => bw_cell (mt_cell K0 (j := 1) rfl) lt0 n
  have BA := Lib.hid (fun W (h : Below W0.heap.size W0 W) => bare_all m A1 D1 c1 e1 W)
  have SA := Lib.hid (fun W (h : Below W0.heap.size W0 W) => rSameM_any m (bareM m) A1 D1 (bA m A1) (bA m D1) c1 e1 (bN m c1) (bN m e1) B B W (h1.below ((B0.trans (h.mono B0.size)).mono hB)) (bare_R (h1.below ((B0.trans (h.mono B0.size)).mono hB))) (Nat.le_trans hB (Nat.le_trans B0.size h.size)) (Nat.le_trans hB (Nat.le_trans B0.size h.size)))
  have WI := Lib.hid (fun W => within_any m.tid 0 2 W)
  have HM := Lib.hid (show mayM m = (sameM m (bareM m) && (inB m.tid 0 2 && fitM m)) by
    have e2 : decide (m.tid < 3) = decide (m.tid ≤ 2) := decide_eq_decide.2 (by omega)
    unfold mayM inB
    rw [e2, Bool.and_assoc])
  have HF := Lib.hid (show fitM m = true by unfold fitM; simp [hk])
  generalize sameM m (bareM m) = u at HM SA
  generalize inB m.tid 0 2 = v at HM WI
  have cc0 : (m.kd == 0) = false := by rw [hk]; rfl
  have cc4 : (m.kd == 4) = true := by rw [hk]; rfl
  have cc3 : (m.kd == 3) = false := by rw [hk]; rfl
  have cc1 : (m.kd == 1) = false := by rw [hk]; rfl
  have cc2 : (m.kd == 2) = false := by rw [hk]; rfl
  have cc5 : (m.kd == 5) = false := by rw [hk]; rfl
  have cc6 : (m.kd == 6) = false := by rw [hk]; rfl
  have cc7 : (m.kd == 7) = false := by rw [hk]; rfl
  clear hW0 B0 K0 h1 hB h8 h9 hk
  cases u
  · skip
    go_enter Tryz.func19, Tryz.ntmps19
    go_upto_region 1 with (fail)
    rw [← HW.out]
    refine wp_region_bq W0.heap.size (by kernel_rfl) (by kernel_rfl) ?_
    repeat (go_big_quiet_step (first | (go_at_call 45; exact bw_call (Nat.le_refl _) (BA.out _ (by exact Subtype.property _))) | (go_at_call 21; exact bw_call (Nat.le_refl _) (SA.out _ (by exact Subtype.property _))) | (go_at_call 46; exact bw_same (WI.out _))))
    refine wpQuiet_nil ?_
    rintro _ ⟨n, rfl⟩
    have BN := Lib.hid n.2
    clear lm ct
    go_wp2_with fail
    go_ret
    rw [HM.out]
    exact ⟨by simp, HB.out.trans (BN.out.mono HB.out.size)⟩
  cases v
  · skip
    go_enter Tryz.func19, Tryz.ntmps19
    go_upto_region 1 with (fail)
    rw [← HW.out]
    refine wp_region_bq W0.heap.size (by kernel_rfl) (by kernel_rfl) ?_
    repeat (go_big_quiet_step (first | (go_at_call 45; exact bw_call (Nat.le_refl _) (BA.out _ (by exact Subtype.property _))) | (go_at_call 21; exact bw_call (Nat.le_refl _) (SA.out _ (by exact Subtype.property _))) | (go_at_call 46; exact bw_same (WI.out _))))
    refine wpQuiet_nil ?_
    rintro _ ⟨n, rfl⟩
    have BN := Lib.hid n.2
    clear lm ct
    go_wp2_with fail
    go_ret
    rw [HM.out]
    exact ⟨by simp, HB.out.trans (BN.out.mono HB.out.size)⟩
  go_enter Tryz.func19, Tryz.ntmps19
  go_upto_region 1 with (fail)
  rw [← HW.out]
  refine wp_region_bq W0.heap.size (by kernel_rfl) (by kernel_rfl) ?_
  repeat (go_big_quiet_step (first | (go_at_call 45; exact bw_call (Nat.le_refl _) (BA.out _ (by exact Subtype.property _))) | (go_at_call 21; exact bw_call (Nat.le_refl _) (SA.out _ (by exact Subtype.property _))) | (go_at_call 46; exact bw_same (WI.out _))))
  refine wpQuiet_nil ?_
  rintro _ ⟨n, rfl⟩
  have BN := Lib.hid n.2
  clear lm ct
  have KN := Lib.hid (HK.out.below BN.out HK.out.lt)
  have x0 := mt_cell KN.out (j := 0) rfl
  go_wp2_with fail
  go_ret
  rw [HM.out, HF.out]
  exact ⟨by simp, HB.out.trans (BN.out.mono HB.out.size)⟩
set_option maxRecDepth 100000 in
set_option maxHeartbeats 8000000 in
theorem rMayM_1 (m : Mt) (A1 D1 : Option Addr) (c1 e1 B : Nat) (w : World) (h1 : CoR w B m.c A1 D1) (hB : B ≤ w.heap.size) (h8 : -128 ≤ m.c.st) (h9 : m.c.st ≤ 127) (hk : m.kd = 1) :
    Calls Tryz.prog 19 #[.agg (mtX m A1 D1 c1 e1)] w fun e w' => e = .returned (.bool (mayM m)) ∧ Below w.heap.size w w' := by
  obtain ⟨W0, hW0⟩ : ∃ W0, W0 = w.alloc (.cells (mtX m A1 D1 c1 e1) 42) := ⟨_, rfl⟩
  have B0 : Below w.heap.size w W0 := by rw [hW0]; exact bal (Below.refl _ _) _
  have K0 : Blk W0 w.heap.size 42 (mtX m A1 D1 c1 e1) := by rw [hW0]; exact Blk.new w 42 _
  have HW := Lib.hid hW0
  have HB := Lib.hid B0
  have HK := Lib.hid K0
  have lt0 := K0.lt
  have lm := fun n : BW W0.heap.size W0 => mt_load (P := Tryz.prog) (K0.below n.2 K0.lt)
  have ct := fun n : BW W0.heap.size W0 => bw_cell (mt_cell K0 (j := 1) rfl) lt0 n
  have BA := Lib.hid (fun W (h : Below W0.heap.size W0 W) => bare_all m A1 D1 c1 e1 W)
  have SA := Lib.hid (fun W (h : Below W0.heap.size W0 W) => rSameM_any m (bareM m) A1 D1 (bA m A1) (bA m D1) c1 e1 (bN m c1) (bN m e1) B B W (h1.below ((B0.trans (h.mono B0.size)).mono hB)) (bare_R (h1.below ((B0.trans (h.mono B0.size)).mono hB))) (Nat.le_trans hB (Nat.le_trans B0.size h.size)) (Nat.le_trans hB (Nat.le_trans B0.size h.size)))
  have WI := Lib.hid (fun W => within_any m.tid 0 2 W)
  have HM := Lib.hid (show mayM m = (sameM m (bareM m) && (inB m.tid 0 2 && fitM m)) by
    have e2 : decide (m.tid < 3) = decide (m.tid ≤ 2) := decide_eq_decide.2 (by omega)
    unfold mayM inB
    rw [e2, Bool.and_assoc])
  have HF := Lib.hid (show fitM m = inB m.tm 1 20 by unfold fitM; simp [hk]; rfl)
  have W2 := Lib.hid (fun W => within_any m.tm 1 20 W)
  generalize sameM m (bareM m) = u at HM SA
  generalize inB m.tid 0 2 = v at HM WI
  have cc0 : (m.kd == 0) = false := by rw [hk]; rfl
  have cc4 : (m.kd == 4) = false := by rw [hk]; rfl
  have cc3 : (m.kd == 3) = false := by rw [hk]; rfl
  have cc1 : (m.kd == 1) = true := by rw [hk]; rfl
  have cc2 : (m.kd == 2) = false := by rw [hk]; rfl
  have cc5 : (m.kd == 5) = false := by rw [hk]; rfl
  have cc6 : (m.kd == 6) = false := by rw [hk]; rfl
  have cc7 : (m.kd == 7) = false := by rw [hk]; rfl
  clear hW0 B0 K0 h1 hB h8 h9 hk
  cases u
  · skip
    go_enter Tryz.func19, Tryz.ntmps19
    go_upto_region 1 with (fail)
    rw [← HW.out]
    refine wp_region_bq W0.heap.size (by kernel_rfl) (by kernel_rfl) ?_
    repeat (go_big_quiet_step (first | (go_at_call 45; exact bw_call (Nat.le_refl _) (BA.out _ (by exact Subtype.property _))) | (go_at_call 21; exact bw_call (Nat.le_refl _) (SA.out _ (by exact Subtype.property _))) | (go_at_call 46; exact bw_same (WI.out _))))
    refine wpQuiet_nil ?_
    rintro _ ⟨n, rfl⟩
    have BN := Lib.hid n.2
    clear lm ct
    go_wp2_with fail
    go_ret
    rw [HM.out]
    exact ⟨by simp, HB.out.trans (BN.out.mono HB.out.size)⟩
  cases v
  · skip
    go_enter Tryz.func19, Tryz.ntmps19
    go_upto_region 1 with (fail)
    rw [← HW.out]
    refine wp_region_bq W0.heap.size (by kernel_rfl) (by kernel_rfl) ?_
    repeat (go_big_quiet_step (first | (go_at_call 45; exact bw_call (Nat.le_refl _) (BA.out _ (by exact Subtype.property _))) | (go_at_call 21; exact bw_call (Nat.le_refl _) (SA.out _ (by exact Subtype.property _))) | (go_at_call 46; exact bw_same (WI.out _))))
    refine wpQuiet_nil ?_
    rintro _ ⟨n, rfl⟩
    have BN := Lib.hid n.2
    clear lm ct
    go_wp2_with fail
    go_ret
    rw [HM.out]
    exact ⟨by simp, HB.out.trans (BN.out.mono HB.out.size)⟩
  go_enter Tryz.func19, Tryz.ntmps19
  go_upto_region 1 with (fail)
  rw [← HW.out]
  refine wp_region_bq W0.heap.size (by kernel_rfl) (by kernel_rfl) ?_
  repeat (go_big_quiet_step (first | (go_at_call 45; exact bw_call (Nat.le_refl _) (BA.out _ (by exact Subtype.property _))) | (go_at_call 21; exact bw_call (Nat.le_refl _) (SA.out _ (by exact Subtype.property _))) | (go_at_call 46; exact bw_same (WI.out _))))
  refine wpQuiet_nil ?_
  rintro _ ⟨n, rfl⟩
  have BN := Lib.hid n.2
  clear lm ct
  have KN := Lib.hid (HK.out.below BN.out HK.out.lt)
  have x0 := mt_cell KN.out (j := 0) rfl
  have x2 := mt_cell KN.out (j := 2) rfl
  go_wp2_with fail
  refine (W2.out _).mono ?_
  rintro e w3 ⟨rfl, rfl⟩
  go_wp2_with fail
  go_ret
  rw [HM.out, HF.out]
  exact ⟨by simp, HB.out.trans (BN.out.mono HB.out.size)⟩
set_option maxRecDepth 100000 in
set_option maxHeartbeats 8000000 in
theorem rMayM_7 (m : Mt) (A1 D1 : Option Addr) (c1 e1 B : Nat) (w : World) (h1 : CoR w B m.c A1 D1) (hB : B ≤ w.heap.size) (h8 : -128 ≤ m.c.st) (h9 : m.c.st ≤ 127) (hk : m.kd = 7) :
    Calls Tryz.prog 19 #[.agg (mtX m A1 D1 c1 e1)] w fun e w' => e = .returned (.bool (mayM m)) ∧ Below w.heap.size w w' := by
  obtain ⟨W0, hW0⟩ : ∃ W0, W0 = w.alloc (.cells (mtX m A1 D1 c1 e1) 42) := ⟨_, rfl⟩
  have B0 : Below w.heap.size w W0 := by rw [hW0]; exact bal (Below.refl _ _) _
  have K0 : Blk W0 w.heap.size 42 (mtX m A1 D1 c1 e1) := by rw [hW0]; exact Blk.new w 42 _
  have HW := Lib.hid hW0
  have HB := Lib.hid B0
  have HK := Lib.hid K0
  have lt0 := K0.lt
  have lm := fun n : BW W0.heap.size W0 => mt_load (P := Tryz.prog) (K0.below n.2 K0.lt)
  have ct := fun n : BW W0.heap.size W0 => bw_cell (mt_cell K0 (j := 1) rfl) lt0 n
  have BA := Lib.hid (fun W (h : Below W0.heap.size W0 W) => bare_all m A1 D1 c1 e1 W)
  have SA := Lib.hid (fun W (h : Below W0.heap.size W0 W) => rSameM_any m (bareM m) A1 D1 (bA m A1) (bA m D1) c1 e1 (bN m c1) (bN m e1) B B W (h1.below ((B0.trans (h.mono B0.size)).mono hB)) (bare_R (h1.below ((B0.trans (h.mono B0.size)).mono hB))) (Nat.le_trans hB (Nat.le_trans B0.size h.size)) (Nat.le_trans hB (Nat.le_trans B0.size h.size)))
  have WI := Lib.hid (fun W => within_any m.tid 0 2 W)
  have HM := Lib.hid (show mayM m = (sameM m (bareM m) && (inB m.tid 0 2 && fitM m)) by
    have e2 : decide (m.tid < 3) = decide (m.tid ≤ 2) := decide_eq_decide.2 (by omega)
    unfold mayM inB
    rw [e2, Bool.and_assoc])
  have HF := Lib.hid (show fitM m = inB m.nx 0 8 by unfold fitM; simp [hk]; rfl)
  have W2 := Lib.hid (fun W => within_any m.nx 0 8 W)
  generalize sameM m (bareM m) = u at HM SA
  generalize inB m.tid 0 2 = v at HM WI
  have cc0 : (m.kd == 0) = false := by rw [hk]; rfl
  have cc4 : (m.kd == 4) = false := by rw [hk]; rfl
  have cc3 : (m.kd == 3) = false := by rw [hk]; rfl
  have cc1 : (m.kd == 1) = false := by rw [hk]; rfl
  have cc2 : (m.kd == 2) = false := by rw [hk]; rfl
  have cc5 : (m.kd == 5) = false := by rw [hk]; rfl
  have cc6 : (m.kd == 6) = false := by rw [hk]; rfl
  have cc7 : (m.kd == 7) = true := by rw [hk]; rfl
  clear hW0 B0 K0 h1 hB h8 h9 hk
  cases u
  · skip
    go_enter Tryz.func19, Tryz.ntmps19
    go_upto_region 1 with (fail)
    rw [← HW.out]
    refine wp_region_bq W0.heap.size (by kernel_rfl) (by kernel_rfl) ?_
    repeat (go_big_quiet_step (first | (go_at_call 45; exact bw_call (Nat.le_refl _) (BA.out _ (by exact Subtype.property _))) | (go_at_call 21; exact bw_call (Nat.le_refl _) (SA.out _ (by exact Subtype.property _))) | (go_at_call 46; exact bw_same (WI.out _))))
    refine wpQuiet_nil ?_
    rintro _ ⟨n, rfl⟩
    have BN := Lib.hid n.2
    clear lm ct
    go_wp2_with fail
    go_ret
    rw [HM.out]
    exact ⟨by simp, HB.out.trans (BN.out.mono HB.out.size)⟩
  cases v
  · skip
    go_enter Tryz.func19, Tryz.ntmps19
    go_upto_region 1 with (fail)
    rw [← HW.out]
    refine wp_region_bq W0.heap.size (by kernel_rfl) (by kernel_rfl) ?_
    repeat (go_big_quiet_step (first | (go_at_call 45; exact bw_call (Nat.le_refl _) (BA.out _ (by exact Subtype.property _))) | (go_at_call 21; exact bw_call (Nat.le_refl _) (SA.out _ (by exact Subtype.property _))) | (go_at_call 46; exact bw_same (WI.out _))))
    refine wpQuiet_nil ?_
    rintro _ ⟨n, rfl⟩
    have BN := Lib.hid n.2
    clear lm ct
    go_wp2_with fail
    go_ret
    rw [HM.out]
    exact ⟨by simp, HB.out.trans (BN.out.mono HB.out.size)⟩
  go_enter Tryz.func19, Tryz.ntmps19
  go_upto_region 1 with (fail)
  rw [← HW.out]
  refine wp_region_bq W0.heap.size (by kernel_rfl) (by kernel_rfl) ?_
  repeat (go_big_quiet_step (first | (go_at_call 45; exact bw_call (Nat.le_refl _) (BA.out _ (by exact Subtype.property _))) | (go_at_call 21; exact bw_call (Nat.le_refl _) (SA.out _ (by exact Subtype.property _))) | (go_at_call 46; exact bw_same (WI.out _))))
  refine wpQuiet_nil ?_
  rintro _ ⟨n, rfl⟩
  have BN := Lib.hid n.2
  clear lm ct
  have KN := Lib.hid (HK.out.below BN.out HK.out.lt)
  have x0 := mt_cell KN.out (j := 0) rfl
  have x2 := mt_cell KN.out (j := 16) rfl
  go_wp2_with fail
  refine (W2.out _).mono ?_
  rintro e w3 ⟨rfl, rfl⟩
  go_wp2_with fail
  go_ret
  rw [HM.out, HF.out]
  exact ⟨by simp, HB.out.trans (BN.out.mono HB.out.size)⟩
set_option maxRecDepth 100000 in
set_option maxHeartbeats 8000000 in
theorem rMayM_2 (m : Mt) (A1 D1 : Option Addr) (c1 e1 B : Nat) (w : World) (h1 : CoR w B m.c A1 D1) (hB : B ≤ w.heap.size) (h8 : -128 ≤ m.c.st) (h9 : m.c.st ≤ 127) (hk : m.kd = 2) :
    Calls Tryz.prog 19 #[.agg (mtX m A1 D1 c1 e1)] w fun e w' => e = .returned (.bool (mayM m)) ∧ Below w.heap.size w w' := by
  obtain ⟨W0, hW0⟩ : ∃ W0, W0 = w.alloc (.cells (mtX m A1 D1 c1 e1) 42) := ⟨_, rfl⟩
  have B0 : Below w.heap.size w W0 := by rw [hW0]; exact bal (Below.refl _ _) _
  have K0 : Blk W0 w.heap.size 42 (mtX m A1 D1 c1 e1) := by rw [hW0]; exact Blk.new w 42 _
  have HW := Lib.hid hW0
  have HB := Lib.hid B0
  have HK := Lib.hid K0
  have lt0 := K0.lt
  have lm := fun n : BW W0.heap.size W0 => mt_load (P := Tryz.prog) (K0.below n.2 K0.lt)
  have ct := fun n : BW W0.heap.size W0 => bw_cell (mt_cell K0 (j := 1) rfl) lt0 n
  have BA := Lib.hid (fun W (h : Below W0.heap.size W0 W) => bare_all m A1 D1 c1 e1 W)
  have SA := Lib.hid (fun W (h : Below W0.heap.size W0 W) => rSameM_any m (bareM m) A1 D1 (bA m A1) (bA m D1) c1 e1 (bN m c1) (bN m e1) B B W (h1.below ((B0.trans (h.mono B0.size)).mono hB)) (bare_R (h1.below ((B0.trans (h.mono B0.size)).mono hB))) (Nat.le_trans hB (Nat.le_trans B0.size h.size)) (Nat.le_trans hB (Nat.le_trans B0.size h.size)))
  have WI := Lib.hid (fun W => within_any m.tid 0 2 W)
  have HM := Lib.hid (show mayM m = (sameM m (bareM m) && (inB m.tid 0 2 && fitM m)) by
    have e2 : decide (m.tid < 3) = decide (m.tid ≤ 2) := decide_eq_decide.2 (by omega)
    unfold mayM inB
    rw [e2, Bool.and_assoc])
  have HF := Lib.hid (show fitM m = pendB m.p by unfold fitM; simp [hk])
  have W2 := Lib.hid (fun W => rpend_any m.p W)
  generalize sameM m (bareM m) = u at HM SA
  generalize inB m.tid 0 2 = v at HM WI
  have cc0 : (m.kd == 0) = false := by rw [hk]; rfl
  have cc4 : (m.kd == 4) = false := by rw [hk]; rfl
  have cc3 : (m.kd == 3) = false := by rw [hk]; rfl
  have cc1 : (m.kd == 1) = false := by rw [hk]; rfl
  have cc2 : (m.kd == 2) = true := by rw [hk]; rfl
  have cc5 : (m.kd == 5) = false := by rw [hk]; rfl
  have cc6 : (m.kd == 6) = false := by rw [hk]; rfl
  have cc7 : (m.kd == 7) = false := by rw [hk]; rfl
  clear hW0 B0 K0 h1 hB h8 h9 hk
  cases u
  · skip
    go_enter Tryz.func19, Tryz.ntmps19
    go_upto_region 1 with (fail)
    rw [← HW.out]
    refine wp_region_bq W0.heap.size (by kernel_rfl) (by kernel_rfl) ?_
    repeat (go_big_quiet_step (first | (go_at_call 45; exact bw_call (Nat.le_refl _) (BA.out _ (by exact Subtype.property _))) | (go_at_call 21; exact bw_call (Nat.le_refl _) (SA.out _ (by exact Subtype.property _))) | (go_at_call 46; exact bw_same (WI.out _))))
    refine wpQuiet_nil ?_
    rintro _ ⟨n, rfl⟩
    have BN := Lib.hid n.2
    clear lm ct
    go_wp2_with fail
    go_ret
    rw [HM.out]
    exact ⟨by simp, HB.out.trans (BN.out.mono HB.out.size)⟩
  cases v
  · skip
    go_enter Tryz.func19, Tryz.ntmps19
    go_upto_region 1 with (fail)
    rw [← HW.out]
    refine wp_region_bq W0.heap.size (by kernel_rfl) (by kernel_rfl) ?_
    repeat (go_big_quiet_step (first | (go_at_call 45; exact bw_call (Nat.le_refl _) (BA.out _ (by exact Subtype.property _))) | (go_at_call 21; exact bw_call (Nat.le_refl _) (SA.out _ (by exact Subtype.property _))) | (go_at_call 46; exact bw_same (WI.out _))))
    refine wpQuiet_nil ?_
    rintro _ ⟨n, rfl⟩
    have BN := Lib.hid n.2
    clear lm ct
    go_wp2_with fail
    go_ret
    rw [HM.out]
    exact ⟨by simp, HB.out.trans (BN.out.mono HB.out.size)⟩
  go_enter Tryz.func19, Tryz.ntmps19
  go_upto_region 1 with (fail)
  rw [← HW.out]
  refine wp_region_bq W0.heap.size (by kernel_rfl) (by kernel_rfl) ?_
  repeat (go_big_quiet_step (first | (go_at_call 45; exact bw_call (Nat.le_refl _) (BA.out _ (by exact Subtype.property _))) | (go_at_call 21; exact bw_call (Nat.le_refl _) (SA.out _ (by exact Subtype.property _))) | (go_at_call 46; exact bw_same (WI.out _))))
  refine wpQuiet_nil ?_
  rintro _ ⟨n, rfl⟩
  have BN := Lib.hid n.2
  clear lm ct
  have KN := Lib.hid (HK.out.below BN.out HK.out.lt)
  have x0 := mt_cell KN.out (j := 0) rfl
  have x2 := mt_pend (P := Tryz.prog) KN.out
  go_wp2_with fail
  refine (W2.out _).mono ?_
  rintro e w3 ⟨rfl, b3⟩
  have B3 := Lib.hid (BN.out.trans (b3.mono BN.out.size))
  clear b3
  go_wp2_with fail
  go_ret
  rw [HM.out, HF.out]
  exact ⟨by simp, HB.out.trans (B3.out.mono HB.out.size)⟩
set_option maxRecDepth 100000 in
set_option maxHeartbeats 8000000 in
theorem rMayM_5 (m : Mt) (A1 D1 : Option Addr) (c1 e1 B : Nat) (w : World) (h1 : CoR w B m.c A1 D1) (hB : B ≤ w.heap.size) (h8 : -128 ≤ m.c.st) (h9 : m.c.st ≤ 127) (hk : m.kd = 5) :
    Calls Tryz.prog 19 #[.agg (mtX m A1 D1 c1 e1)] w fun e w' => e = .returned (.bool (mayM m)) ∧ Below w.heap.size w w' := by
  obtain ⟨W0, hW0⟩ : ∃ W0, W0 = w.alloc (.cells (mtX m A1 D1 c1 e1) 42) := ⟨_, rfl⟩
  have B0 : Below w.heap.size w W0 := by rw [hW0]; exact bal (Below.refl _ _) _
  have K0 : Blk W0 w.heap.size 42 (mtX m A1 D1 c1 e1) := by rw [hW0]; exact Blk.new w 42 _
  have HW := Lib.hid hW0
  have HB := Lib.hid B0
  have HK := Lib.hid K0
  have lt0 := K0.lt
  have lm := fun n : BW W0.heap.size W0 => mt_load (P := Tryz.prog) (K0.below n.2 K0.lt)
  have ct := fun n : BW W0.heap.size W0 => bw_cell (mt_cell K0 (j := 1) rfl) lt0 n
  have BA := Lib.hid (fun W (h : Below W0.heap.size W0 W) => bare_all m A1 D1 c1 e1 W)
  have SA := Lib.hid (fun W (h : Below W0.heap.size W0 W) => rSameM_any m (bareM m) A1 D1 (bA m A1) (bA m D1) c1 e1 (bN m c1) (bN m e1) B B W (h1.below ((B0.trans (h.mono B0.size)).mono hB)) (bare_R (h1.below ((B0.trans (h.mono B0.size)).mono hB))) (Nat.le_trans hB (Nat.le_trans B0.size h.size)) (Nat.le_trans hB (Nat.le_trans B0.size h.size)))
  have WI := Lib.hid (fun W => within_any m.tid 0 2 W)
  have HM := Lib.hid (show mayM m = (sameM m (bareM m) && (inB m.tid 0 2 && fitM m)) by
    have e2 : decide (m.tid < 3) = decide (m.tid ≤ 2) := decide_eq_decide.2 (by omega)
    unfold mayM inB
    rw [e2, Bool.and_assoc])
  have HF := Lib.hid (show fitM m = pendB m.p by unfold fitM; simp [hk])
  have W2 := Lib.hid (fun W => rpend_any m.p W)
  generalize sameM m (bareM m) = u at HM SA
  generalize inB m.tid 0 2 = v at HM WI
  have cc0 : (m.kd == 0) = false := by rw [hk]; rfl
  have cc4 : (m.kd == 4) = false := by rw [hk]; rfl
  have cc3 : (m.kd == 3) = false := by rw [hk]; rfl
  have cc1 : (m.kd == 1) = false := by rw [hk]; rfl
  have cc2 : (m.kd == 2) = false := by rw [hk]; rfl
  have cc5 : (m.kd == 5) = true := by rw [hk]; rfl
  have cc6 : (m.kd == 6) = false := by rw [hk]; rfl
  have cc7 : (m.kd == 7) = false := by rw [hk]; rfl
  clear hW0 B0 K0 h1 hB h8 h9 hk
  cases u
  · skip
    go_enter Tryz.func19, Tryz.ntmps19
    go_upto_region 1 with (fail)
    rw [← HW.out]
    refine wp_region_bq W0.heap.size (by kernel_rfl) (by kernel_rfl) ?_
    repeat (go_big_quiet_step (first | (go_at_call 45; exact bw_call (Nat.le_refl _) (BA.out _ (by exact Subtype.property _))) | (go_at_call 21; exact bw_call (Nat.le_refl _) (SA.out _ (by exact Subtype.property _))) | (go_at_call 46; exact bw_same (WI.out _))))
    refine wpQuiet_nil ?_
    rintro _ ⟨n, rfl⟩
    have BN := Lib.hid n.2
    clear lm ct
    go_wp2_with fail
    go_ret
    rw [HM.out]
    exact ⟨by simp, HB.out.trans (BN.out.mono HB.out.size)⟩
  cases v
  · skip
    go_enter Tryz.func19, Tryz.ntmps19
    go_upto_region 1 with (fail)
    rw [← HW.out]
    refine wp_region_bq W0.heap.size (by kernel_rfl) (by kernel_rfl) ?_
    repeat (go_big_quiet_step (first | (go_at_call 45; exact bw_call (Nat.le_refl _) (BA.out _ (by exact Subtype.property _))) | (go_at_call 21; exact bw_call (Nat.le_refl _) (SA.out _ (by exact Subtype.property _))) | (go_at_call 46; exact bw_same (WI.out _))))
    refine wpQuiet_nil ?_
    rintro _ ⟨n, rfl⟩
    have BN := Lib.hid n.2
    clear lm ct
    go_wp2_with fail
    go_ret
    rw [HM.out]
    exact ⟨by simp, HB.out.trans (BN.out.mono HB.out.size)⟩
  go_enter Tryz.func19, Tryz.ntmps19
  go_upto_region 1 with (fail)
  rw [← HW.out]
  refine wp_region_bq W0.heap.size (by kernel_rfl) (by kernel_rfl) ?_
  repeat (go_big_quiet_step (first | (go_at_call 45; exact bw_call (Nat.le_refl _) (BA.out _ (by exact Subtype.property _))) | (go_at_call 21; exact bw_call (Nat.le_refl _) (SA.out _ (by exact Subtype.property _))) | (go_at_call 46; exact bw_same (WI.out _))))
  refine wpQuiet_nil ?_
  rintro _ ⟨n, rfl⟩
  have BN := Lib.hid n.2
  clear lm ct
  have KN := Lib.hid (HK.out.below BN.out HK.out.lt)
  have x0 := mt_cell KN.out (j := 0) rfl
  have x2 := mt_pend (P := Tryz.prog) KN.out
  go_wp2_with fail
  refine (W2.out _).mono ?_
  rintro e w3 ⟨rfl, b3⟩
  have B3 := Lib.hid (BN.out.trans (b3.mono BN.out.size))
  clear b3
  go_wp2_with fail
  go_ret
  rw [HM.out, HF.out]
  exact ⟨by simp, HB.out.trans (B3.out.mono HB.out.size)⟩
set_option maxRecDepth 100000 in
set_option maxHeartbeats 8000000 in
theorem rMayM_3 (m : Mt) (A1 D1 : Option Addr) (c1 e1 B : Nat) (w : World) (h1 : CoR w B m.c A1 D1) (hB : B ≤ w.heap.size) (h8 : -128 ≤ m.c.st) (h9 : m.c.st ≤ 127) (hk : m.kd = 3) :
    Calls Tryz.prog 19 #[.agg (mtX m A1 D1 c1 e1)] w fun e w' => e = .returned (.bool (mayM m)) ∧ Below w.heap.size w w' := by
  obtain ⟨W0, hW0⟩ : ∃ W0, W0 = w.alloc (.cells (mtX m A1 D1 c1 e1) 42) := ⟨_, rfl⟩
  have B0 : Below w.heap.size w W0 := by rw [hW0]; exact bal (Below.refl _ _) _
  have K0 : Blk W0 w.heap.size 42 (mtX m A1 D1 c1 e1) := by rw [hW0]; exact Blk.new w 42 _
  have HW := Lib.hid hW0
  have HB := Lib.hid B0
  have HK := Lib.hid K0
  have lt0 := K0.lt
  have lm := fun n : BW W0.heap.size W0 => mt_load (P := Tryz.prog) (K0.below n.2 K0.lt)
  have ct := fun n : BW W0.heap.size W0 => bw_cell (mt_cell K0 (j := 1) rfl) lt0 n
  have BA := Lib.hid (fun W (h : Below W0.heap.size W0 W) => bare_all m A1 D1 c1 e1 W)
  have SA := Lib.hid (fun W (h : Below W0.heap.size W0 W) => rSameM_any m (bareM m) A1 D1 (bA m A1) (bA m D1) c1 e1 (bN m c1) (bN m e1) B B W (h1.below ((B0.trans (h.mono B0.size)).mono hB)) (bare_R (h1.below ((B0.trans (h.mono B0.size)).mono hB))) (Nat.le_trans hB (Nat.le_trans B0.size h.size)) (Nat.le_trans hB (Nat.le_trans B0.size h.size)))
  have WI := Lib.hid (fun W => within_any m.tid 0 2 W)
  have HM := Lib.hid (show mayM m = (sameM m (bareM m) && (inB m.tid 0 2 && fitM m)) by
    have e2 : decide (m.tid < 3) = decide (m.tid ≤ 2) := decide_eq_decide.2 (by omega)
    unfold mayM inB
    rw [e2, Bool.and_assoc])
  have HF := Lib.hid (show fitM m = (inB m.th 0 20 && (!m.yes || decide (m.th = 0))) by unfold fitM inB; simp [hk, Bool.and_assoc])
  have W2 := Lib.hid (fun W => within_any m.th 0 20 W)
  generalize sameM m (bareM m) = u at HM SA
  generalize inB m.tid 0 2 = v at HM WI
  have cc0 : (m.kd == 0) = false := by rw [hk]; rfl
  have cc4 : (m.kd == 4) = false := by rw [hk]; rfl
  have cc3 : (m.kd == 3) = true := by rw [hk]; rfl
  have cc1 : (m.kd == 1) = false := by rw [hk]; rfl
  have cc2 : (m.kd == 2) = false := by rw [hk]; rfl
  have cc5 : (m.kd == 5) = false := by rw [hk]; rfl
  have cc6 : (m.kd == 6) = false := by rw [hk]; rfl
  have cc7 : (m.kd == 7) = false := by rw [hk]; rfl
  clear hW0 B0 K0 h1 hB h8 h9 hk
  cases u
  · skip
    go_enter Tryz.func19, Tryz.ntmps19
    go_upto_region 1 with (fail)
    rw [← HW.out]
    refine wp_region_bq W0.heap.size (by kernel_rfl) (by kernel_rfl) ?_
    repeat (go_big_quiet_step (first | (go_at_call 45; exact bw_call (Nat.le_refl _) (BA.out _ (by exact Subtype.property _))) | (go_at_call 21; exact bw_call (Nat.le_refl _) (SA.out _ (by exact Subtype.property _))) | (go_at_call 46; exact bw_same (WI.out _))))
    refine wpQuiet_nil ?_
    rintro _ ⟨n, rfl⟩
    have BN := Lib.hid n.2
    clear lm ct
    go_wp2_with fail
    go_ret
    rw [HM.out]
    exact ⟨by simp, HB.out.trans (BN.out.mono HB.out.size)⟩
  cases v
  · skip
    go_enter Tryz.func19, Tryz.ntmps19
    go_upto_region 1 with (fail)
    rw [← HW.out]
    refine wp_region_bq W0.heap.size (by kernel_rfl) (by kernel_rfl) ?_
    repeat (go_big_quiet_step (first | (go_at_call 45; exact bw_call (Nat.le_refl _) (BA.out _ (by exact Subtype.property _))) | (go_at_call 21; exact bw_call (Nat.le_refl _) (SA.out _ (by exact Subtype.property _))) | (go_at_call 46; exact bw_same (WI.out _))))
    refine wpQuiet_nil ?_
    rintro _ ⟨n, rfl⟩
    have BN := Lib.hid n.2
    clear lm ct
    go_wp2_with fail
    go_ret
    rw [HM.out]
    exact ⟨by simp, HB.out.trans (BN.out.mono HB.out.size)⟩
  go_enter Tryz.func19, Tryz.ntmps19
  go_upto_region 1 with (fail)
  rw [← HW.out]
  refine wp_region_bq W0.heap.size (by kernel_rfl) (by kernel_rfl) ?_
  repeat (go_big_quiet_step (first | (go_at_call 45; exact bw_call (Nat.le_refl _) (BA.out _ (by exact Subtype.property _))) | (go_at_call 21; exact bw_call (Nat.le_refl _) (SA.out _ (by exact Subtype.property _))) | (go_at_call 46; exact bw_same (WI.out _))))
  refine wpQuiet_nil ?_
  rintro _ ⟨n, rfl⟩
  have BN := Lib.hid n.2
  clear lm ct
  have KN := Lib.hid (HK.out.below BN.out HK.out.lt)
  have x0 := mt_cell KN.out (j := 0) rfl
  have x6 := mt_cell KN.out (j := 6) rfl
  have x7 := mt_cell KN.out (j := 7) rfl
  generalize inB m.th 0 20 = p at HF W2
  generalize hz : decide (m.th = 0) = z at HF
  have hz' : (m.th == 0) = z := by rw [← hz]; rfl
  generalize m.yes = y at HF x6
  clear hz
  go_wp2_with fail
  refine (W2.out _).mono ?_
  rintro e w3 ⟨rfl, rfl⟩
  cases p
  · go_wp2_with fail
    go_ret
    rw [HM.out, HF.out]
    exact ⟨by simp, HB.out.trans (BN.out.mono HB.out.size)⟩
  cases y
  · go_wp2_with fail
    go_ret
    rw [HM.out, HF.out]
    exact ⟨by simp, HB.out.trans (BN.out.mono HB.out.size)⟩
  · go_wp2_with fail
    go_ret
    rw [HM.out, HF.out]
    exact ⟨by simp, HB.out.trans (BN.out.mono HB.out.size)⟩
set_option maxRecDepth 100000 in
set_option maxHeartbeats 8000000 in
theorem rMayM_6 (m : Mt) (A1 D1 : Option Addr) (c1 e1 B : Nat) (w : World) (h1 : CoR w B m.c A1 D1) (hB : B ≤ w.heap.size) (h8 : -128 ≤ m.c.st) (h9 : m.c.st ≤ 127) (hk : m.kd = 6) :
    Calls Tryz.prog 19 #[.agg (mtX m A1 D1 c1 e1)] w fun e w' => e = .returned (.bool (mayM m)) ∧ Below w.heap.size w w' := by
  obtain ⟨W0, hW0⟩ : ∃ W0, W0 = w.alloc (.cells (mtX m A1 D1 c1 e1) 42) := ⟨_, rfl⟩
  have B0 : Below w.heap.size w W0 := by rw [hW0]; exact bal (Below.refl _ _) _
  have K0 : Blk W0 w.heap.size 42 (mtX m A1 D1 c1 e1) := by rw [hW0]; exact Blk.new w 42 _
  have HW := Lib.hid hW0
  have HB := Lib.hid B0
  have HK := Lib.hid K0
  have lt0 := K0.lt
  have lm := fun n : BW W0.heap.size W0 => mt_load (P := Tryz.prog) (K0.below n.2 K0.lt)
  have ct := fun n : BW W0.heap.size W0 => bw_cell (mt_cell K0 (j := 1) rfl) lt0 n
  have BA := Lib.hid (fun W (h : Below W0.heap.size W0 W) => bare_all m A1 D1 c1 e1 W)
  have SA := Lib.hid (fun W (h : Below W0.heap.size W0 W) => rSameM_any m (bareM m) A1 D1 (bA m A1) (bA m D1) c1 e1 (bN m c1) (bN m e1) B B W (h1.below ((B0.trans (h.mono B0.size)).mono hB)) (bare_R (h1.below ((B0.trans (h.mono B0.size)).mono hB))) (Nat.le_trans hB (Nat.le_trans B0.size h.size)) (Nat.le_trans hB (Nat.le_trans B0.size h.size)))
  have WI := Lib.hid (fun W => within_any m.tid 0 2 W)
  have HM := Lib.hid (show mayM m = (sameM m (bareM m) && (inB m.tid 0 2 && fitM m)) by
    have e2 : decide (m.tid < 3) = decide (m.tid ≤ 2) := decide_eq_decide.2 (by omega)
    unfold mayM inB
    rw [e2, Bool.and_assoc])
  have HF := Lib.hid (show fitM m = (decide (m.c.ps.length = 0) && mayB m.c) by unfold fitM; simp [hk])
  have MC := Lib.hid (fun W (h : Below W0.heap.size W0 W) => rMay_any m.c A1 D1 c1 e1 B W (h1.below ((B0.trans (h.mono B0.size)).mono hB)) (Nat.le_trans hB (Nat.le_trans B0.size h.size)) h8 h9)
  generalize sameM m (bareM m) = u at HM SA
  generalize inB m.tid 0 2 = v at HM WI
  have cc0 : (m.kd == 0) = false := by rw [hk]; rfl
  have cc4 : (m.kd == 4) = false := by rw [hk]; rfl
  have cc3 : (m.kd == 3) = false := by rw [hk]; rfl
  have cc1 : (m.kd == 1) = false := by rw [hk]; rfl
  have cc2 : (m.kd == 2) = false := by rw [hk]; rfl
  have cc5 : (m.kd == 5) = false := by rw [hk]; rfl
  have cc6 : (m.kd == 6) = true := by rw [hk]; rfl
  have cc7 : (m.kd == 7) = false := by rw [hk]; rfl
  clear hW0 B0 K0 h1 hB h8 h9 hk
  cases u
  · skip
    go_enter Tryz.func19, Tryz.ntmps19
    go_upto_region 1 with (fail)
    rw [← HW.out]
    refine wp_region_bq W0.heap.size (by kernel_rfl) (by kernel_rfl) ?_
    repeat (go_big_quiet_step (first | (go_at_call 45; exact bw_call (Nat.le_refl _) (BA.out _ (by exact Subtype.property _))) | (go_at_call 21; exact bw_call (Nat.le_refl _) (SA.out _ (by exact Subtype.property _))) | (go_at_call 46; exact bw_same (WI.out _))))
    refine wpQuiet_nil ?_
    rintro _ ⟨n, rfl⟩
    have BN := Lib.hid n.2
    clear lm ct
    go_wp2_with fail
    go_ret
    rw [HM.out]
    exact ⟨by simp, HB.out.trans (BN.out.mono HB.out.size)⟩
  cases v
  · skip
    go_enter Tryz.func19, Tryz.ntmps19
    go_upto_region 1 with (fail)
    rw [← HW.out]
    refine wp_region_bq W0.heap.size (by kernel_rfl) (by kernel_rfl) ?_
    repeat (go_big_quiet_step (first | (go_at_call 45; exact bw_call (Nat.le_refl _) (BA.out _ (by exact Subtype.property _))) | (go_at_call 21; exact bw_call (Nat.le_refl _) (SA.out _ (by exact Subtype.property _))) | (go_at_call 46; exact bw_same (WI.out _))))
    refine wpQuiet_nil ?_
    rintro _ ⟨n, rfl⟩
    have BN := Lib.hid n.2
    clear lm ct
    go_wp2_with fail
    go_ret
    rw [HM.out]
    exact ⟨by simp, HB.out.trans (BN.out.mono HB.out.size)⟩
  go_enter Tryz.func19, Tryz.ntmps19
  go_upto_region 1 with (fail)
  rw [← HW.out]
  refine wp_region_bq W0.heap.size (by kernel_rfl) (by kernel_rfl) ?_
  repeat (go_big_quiet_step (first | (go_at_call 45; exact bw_call (Nat.le_refl _) (BA.out _ (by exact Subtype.property _))) | (go_at_call 21; exact bw_call (Nat.le_refl _) (SA.out _ (by exact Subtype.property _))) | (go_at_call 46; exact bw_same (WI.out _))))
  refine wpQuiet_nil ?_
  rintro _ ⟨n, rfl⟩
  have BN := Lib.hid n.2
  clear lm ct
  have KN := Lib.hid (HK.out.below BN.out HK.out.lt)
  have x0 := mt_cell KN.out (j := 0) rfl
  have xc := mt_co (P := Tryz.prog) KN.out
  generalize hmc : mayB m.c = mc at HF MC
  generalize hz : decide (m.c.ps.length = 0) = z at HF
  have hz' : (((m.c.ps.length : Nat) : Int) == 0) = z := by rw [← hz]; by_cases h : m.c.ps.length = 0 <;> simp [h]
  clear hz hmc
  go_wp2_with fail
  refine (MC.out _ BN.out).mono ?_
  rintro e w3 ⟨rfl, b3⟩
  have B3 := Lib.hid (BN.out.trans (b3.mono BN.out.size))
  have KM := Lib.hid (KN.out.below b3 KN.out.lt)
  have x13 := mt_cell KM.out (j := 13) rfl
  clear b3 xc x0
  cases mc
  · go_wp2_with fail
    go_ret
    rw [HM.out, HF.out]
    exact ⟨by simp, HB.out.trans (B3.out.mono HB.out.size)⟩
  · go_wp2_with fail
    go_ret
    rw [HM.out, HF.out]
    exact ⟨by simp, HB.out.trans (B3.out.mono HB.out.size)⟩
set_option maxRecDepth 100000 in
set_option maxHeartbeats 8000000 in
theorem rMayM_no (m : Mt) (A1 D1 : Option Addr) (c1 e1 B : Nat) (w : World) (h1 : CoR w B m.c A1 D1) (hB : B ≤ w.heap.size) (h8 : -128 ≤ m.c.st) (h9 : m.c.st ≤ 127) (hk : ∀ k : Int, 0 ≤ k → k ≤ 7 → ¬ m.kd = k) :
    Calls Tryz.prog 19 #[.agg (mtX m A1 D1 c1 e1)] w fun e w' => e = .returned (.bool (mayM m)) ∧ Below w.heap.size w w' := by
  obtain ⟨W0, hW0⟩ : ∃ W0, W0 = w.alloc (.cells (mtX m A1 D1 c1 e1) 42) := ⟨_, rfl⟩
  have B0 : Below w.heap.size w W0 := by rw [hW0]; exact bal (Below.refl _ _) _
  have K0 : Blk W0 w.heap.size 42 (mtX m A1 D1 c1 e1) := by rw [hW0]; exact Blk.new w 42 _
  have HW := Lib.hid hW0
  have HB := Lib.hid B0
  have HK := Lib.hid K0
  have lt0 := K0.lt
  have lm := fun n : BW W0.heap.size W0 => mt_load (P := Tryz.prog) (K0.below n.2 K0.lt)
  have ct := fun n : BW W0.heap.size W0 => bw_cell (mt_cell K0 (j := 1) rfl) lt0 n
  have BA := Lib.hid (fun W (h : Below W0.heap.size W0 W) => bare_all m A1 D1 c1 e1 W)
  have SA := Lib.hid (fun W (h : Below W0.heap.size W0 W) => rSameM_any m (bareM m) A1 D1 (bA m A1) (bA m D1) c1 e1 (bN m c1) (bN m e1) B B W (h1.below ((B0.trans (h.mono B0.size)).mono hB)) (bare_R (h1.below ((B0.trans (h.mono B0.size)).mono hB))) (Nat.le_trans hB (Nat.le_trans B0.size h.size)) (Nat.le_trans hB (Nat.le_trans B0.size h.size)))
  have WI := Lib.hid (fun W => within_any m.tid 0 2 W)
  have HM := Lib.hid (show mayM m = (sameM m (bareM m) && (inB m.tid 0 2 && fitM m)) by
    have e2 : decide (m.tid < 3) = decide (m.tid ≤ 2) := decide_eq_decide.2 (by omega)
    unfold mayM inB
    rw [e2, Bool.and_assoc])
  have HF := Lib.hid (show fitM m = false by
    unfold fitM
    rw [if_neg (by rintro (h' | h'); exact hk 0 (by decide) (by decide) h'; exact hk 4 (by decide) (by decide) h'), if_neg (hk 1 (by decide) (by decide)), if_neg (by rintro (h' | h'); exact hk 2 (by decide) (by decide) h'; exact hk 5 (by decide) (by decide) h'), if_neg (hk 3 (by decide) (by decide)), if_neg (hk 6 (by decide) (by decide)), if_neg (hk 7 (by decide) (by decide))])
  generalize sameM m (bareM m) = u at HM SA
  generalize inB m.tid 0 2 = v at HM WI
  have cc0 : (m.kd == 0) = false := by simpa using hk 0 (by decide) (by decide)
  have cc4 : (m.kd == 4) = false := by simpa using hk 4 (by decide) (by decide)
  have cc3 : (m.kd == 3) = false := by simpa using hk 3 (by decide) (by decide)
  have cc1 : (m.kd == 1) = false := by simpa using hk 1 (by decide) (by decide)
  have cc2 : (m.kd == 2) = false := by simpa using hk 2 (by decide) (by decide)
  have cc5 : (m.kd == 5) = false := by simpa using hk 5 (by decide) (by decide)
  have cc6 : (m.kd == 6) = false := by simpa using hk 6 (by decide) (by decide)
  have cc7 : (m.kd == 7) = false := by simpa using hk 7 (by decide) (by decide)
  clear hW0 B0 K0 h1 hB h8 h9 hk
  cases u
  · skip
    go_enter Tryz.func19, Tryz.ntmps19
    go_upto_region 1 with (fail)
    rw [← HW.out]
    refine wp_region_bq W0.heap.size (by kernel_rfl) (by kernel_rfl) ?_
    repeat (go_big_quiet_step (first | (go_at_call 45; exact bw_call (Nat.le_refl _) (BA.out _ (by exact Subtype.property _))) | (go_at_call 21; exact bw_call (Nat.le_refl _) (SA.out _ (by exact Subtype.property _))) | (go_at_call 46; exact bw_same (WI.out _))))
    refine wpQuiet_nil ?_
    rintro _ ⟨n, rfl⟩
    have BN := Lib.hid n.2
    clear lm ct
    go_wp2_with fail
    go_ret
    rw [HM.out]
    exact ⟨by simp, HB.out.trans (BN.out.mono HB.out.size)⟩
  cases v
  · skip
    go_enter Tryz.func19, Tryz.ntmps19
    go_upto_region 1 with (fail)
    rw [← HW.out]
    refine wp_region_bq W0.heap.size (by kernel_rfl) (by kernel_rfl) ?_
    repeat (go_big_quiet_step (first | (go_at_call 45; exact bw_call (Nat.le_refl _) (BA.out _ (by exact Subtype.property _))) | (go_at_call 21; exact bw_call (Nat.le_refl _) (SA.out _ (by exact Subtype.property _))) | (go_at_call 46; exact bw_same (WI.out _))))
    refine wpQuiet_nil ?_
    rintro _ ⟨n, rfl⟩
    have BN := Lib.hid n.2
    clear lm ct
    go_wp2_with fail
    go_ret
    rw [HM.out]
    exact ⟨by simp, HB.out.trans (BN.out.mono HB.out.size)⟩
  go_enter Tryz.func19, Tryz.ntmps19
  go_upto_region 1 with (fail)
  rw [← HW.out]
  refine wp_region_bq W0.heap.size (by kernel_rfl) (by kernel_rfl) ?_
  repeat (go_big_quiet_step (first | (go_at_call 45; exact bw_call (Nat.le_refl _) (BA.out _ (by exact Subtype.property _))) | (go_at_call 21; exact bw_call (Nat.le_refl _) (SA.out _ (by exact Subtype.property _))) | (go_at_call 46; exact bw_same (WI.out _))))
  refine wpQuiet_nil ?_
  rintro _ ⟨n, rfl⟩
  have BN := Lib.hid n.2
  clear lm ct
  have KN := Lib.hid (HK.out.below BN.out HK.out.lt)
  have x0 := mt_cell KN.out (j := 0) rfl
  go_wp2_with fail
  go_ret
  rw [HM.out, HF.out]
  exact ⟨by simp, HB.out.trans (BN.out.mono HB.out.size)⟩
theorem rMayM_all (m : Mt) (A1 D1 : Option Addr) (c1 e1 B : Nat) (w : World) (h1 : CoR w B m.c A1 D1) (hB : B ≤ w.heap.size) (h8 : -128 ≤ m.c.st) (h9 : m.c.st ≤ 127) :
    Calls Tryz.prog 19 #[.agg (mtX m A1 D1 c1 e1)] w fun e w' => e = .returned (.bool (mayM m)) ∧ Below w.heap.size w w' := by
  by_cases q0 : m.kd = 0
  · exact rMayM_0 m A1 D1 c1 e1 B w h1 hB h8 h9 q0
  by_cases q1 : m.kd = 1
  · exact rMayM_1 m A1 D1 c1 e1 B w h1 hB h8 h9 q1
  by_cases q2 : m.kd = 2
  · exact rMayM_2 m A1 D1 c1 e1 B w h1 hB h8 h9 q2
  by_cases q3 : m.kd = 3
  · exact rMayM_3 m A1 D1 c1 e1 B w h1 hB h8 h9 q3
  by_cases q4 : m.kd = 4
  · exact rMayM_4 m A1 D1 c1 e1 B w h1 hB h8 h9 q4
  by_cases q5 : m.kd = 5
  · exact rMayM_5 m A1 D1 c1 e1 B w h1 hB h8 h9 q5
  by_cases q6 : m.kd = 6
  · exact rMayM_6 m A1 D1 c1 e1 B w h1 hB h8 h9 q6
  by_cases q7 : m.kd = 7
  · exact rMayM_7 m A1 D1 c1 e1 B w h1 hB h8 h9 q7
  exact rMayM_no m A1 D1 c1 e1 B w h1 hB h8 h9 (fun k h8 h9 => by rcases (show k = 0 ∨ k = 1 ∨ k = 2 ∨ k = 3 ∨ k = 4 ∨ k = 5 ∨ k = 6 ∨ k = 7 by omega) with rfl | rfl | rfl | rfl | rfl | rfl | rfl | rfl <;> assumption)
end
end Go.Proofs.YtbpkckahonmpkaaGreatDoor
