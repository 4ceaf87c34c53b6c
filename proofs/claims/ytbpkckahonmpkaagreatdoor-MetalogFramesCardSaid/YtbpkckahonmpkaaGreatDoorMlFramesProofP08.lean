/-
  errors.As and errors.Is at an error of type metalog.fault, which wraps its code.
  Layer 19: whether an entry may be, by the program.
-/
import Derived.Test.YtbpkckahonmpkaaGreatDoorMlFramesProofP07
import Derived.Deep.CutBlock
set_option linter.unusedVariables false
set_option linter.unusedSimpArgs false
namespace Go.Proofs.YtbpkckahonmpkaaGreatDoor
open Go.RowKit
section
attribute [-go_sem] loadCells storeVar
set_option maxRecDepth 100000 in
set_option maxHeartbeats 4000000 in
theorem mIsPend_any (p : Pd) (w : World) : Calls Tryz.prog 43 #[.agg #[.int .i64 p.1, .int .i64 p.2.1, .int .i64 p.2.2]] w fun e w' => e = .returned (.bool (pendB p)) ∧ Below w.heap.size w w' := by
  obtain ⟨W0, hW0⟩ : ∃ W0, W0 = w.alloc (.cells #[.int .i64 p.1, .int .i64 p.2.1, .int .i64 p.2.2] 40) := ⟨_, rfl⟩
  have B0 : Below w.heap.size w W0 := by rw [hW0]; exact bal (Below.refl _ _) _
  have K1 : Blk W0 w.heap.size 40 #[.int .i64 p.1, .int .i64 p.2.1, .int .i64 p.2.2] := by rw [hW0]; exact Blk.new w 40 _
  have HW := Lib.hid hW0
  have HB := Lib.hid B0
  have x0 := K1.cell 0
  have x1 := K1.cell 1
  have x2 := K1.cell 2
  have HP := Lib.hid (show pendB p = (decide (0 ≤ p.1) && (decide (p.1 < 2) && ((decide (0 ≤ p.2.1) && decide (p.2.1 < 3)) && (decide (0 ≤ p.2.2) && decide (p.2.2 ≤ 1048576))))) from rfl)
  clear hW0 B0 K1
  generalize hu1 : decide (0 ≤ p.1) = u1 at HP
  generalize hu2 : decide (p.1 < 2) = u2 at HP
  generalize hu3 : decide (0 ≤ p.2.1) = u3 at HP
  generalize hu4 : decide (p.2.1 < 3) = u4 at HP
  generalize hu5 : decide (0 ≤ p.2.2) = u5 at HP
  generalize hu6 : decide (p.2.2 ≤ 1048576) = u6 at HP
  cases u1
  · go_enter Tryz.func43, Tryz.ntmps43
    go_upto_region 1 with (fail)
    rw [← HW.out]
    go_wp2_with fail
    go_ret
    rw [HP.out]
    exact ⟨rfl, HB.out⟩
  cases u2
  · go_enter Tryz.func43, Tryz.ntmps43
    go_upto_region 1 with (fail)
    rw [← HW.out]
    go_wp2_with fail
    go_ret
    rw [HP.out]
    exact ⟨rfl, HB.out⟩
  cases u3
  · go_enter Tryz.func43, Tryz.ntmps43
    go_upto_region 1 with (fail)
    rw [← HW.out]
    go_wp2_with fail
    go_ret
    rw [HP.out]
    exact ⟨rfl, HB.out⟩
  cases u4
  · go_enter Tryz.func43, Tryz.ntmps43
    go_upto_region 1 with (fail)
    rw [← HW.out]
    go_wp2_with fail
    go_ret
    rw [HP.out]
    exact ⟨rfl, HB.out⟩
  cases u5
  · go_enter Tryz.func43, Tryz.ntmps43
    go_upto_region 1 with (fail)
    rw [← HW.out]
    go_wp2_with fail
    go_ret
    rw [HP.out]
    exact ⟨rfl, HB.out⟩
  cases u6
  · go_enter Tryz.func43, Tryz.ntmps43
    go_upto_region 1 with (fail)
    rw [← HW.out]
    go_wp2_with fail
    go_ret
    rw [HP.out]
    exact ⟨rfl, HB.out⟩
  go_enter Tryz.func43, Tryz.ntmps43
  go_upto_region 1 with (fail)
  rw [← HW.out]
  go_wp2_with fail
  go_ret
  rw [HP.out]
  exact ⟨rfl, HB.out⟩
theorem mayM_0 (m : Mt) (hk : m.kd = 0) : mayM m = (sameM m { Mt0 m.kd with }) := by
  have hb : bareM m = { Mt0 m.kd with } := by unfold bareM Mt0; simp [hk]
  have hf : fitM m = true := by unfold fitM; simp [hk]
  unfold mayM
  rw [hb, hf]
  generalize hs : sameM m { Mt0 m.kd with } = sm
  cases sm
  · simp
  · have ht : m.tid = 0 := sameM_tid hs
    simp [ht]
theorem mayM_1 (m : Mt) (hk : m.kd = 1) : mayM m = ((((decide (1 ≤ m.tm) && decide (m.tm ≤ 20)) && decide (0 ≤ m.tid)) && decide (m.tid < 3)) && sameM m { Mt0 m.kd with tm := m.tm, tid := m.tid }) := by
  have hb : bareM m = { Mt0 m.kd with tm := m.tm, tid := m.tid } := by unfold bareM Mt0; simp [hk]
  have hf : fitM m = (decide (1 ≤ m.tm) && decide (m.tm ≤ 20)) := by unfold fitM; simp [hk]
  unfold mayM
  rw [hb, hf]
  generalize hs : sameM m { Mt0 m.kd with tm := m.tm, tid := m.tid } = sm
  cases sm
  · simp
  · simp [Bool.and_comm, Bool.and_left_comm, Bool.and_assoc]
theorem mayM_2 (m : Mt) (hk : m.kd = 2) : mayM m = (((pendB m.p && decide (0 ≤ m.tid)) && decide (m.tid < 3)) && sameM m { Mt0 m.kd with p := m.p, tid := m.tid }) := by
  have hb : bareM m = { Mt0 m.kd with p := m.p, tid := m.tid } := by unfold bareM Mt0; simp [hk]
  have hf : fitM m = pendB m.p := by unfold fitM; simp [hk]
  unfold mayM
  rw [hb, hf]
  generalize hs : sameM m { Mt0 m.kd with p := m.p, tid := m.tid } = sm
  cases sm
  · simp
  · simp [Bool.and_comm, Bool.and_left_comm, Bool.and_assoc]
theorem mayM_3 (m : Mt) (hk : m.kd = 3) : mayM m = (((((decide (0 ≤ m.th) && decide (m.th ≤ 20)) && (!m.yes || decide (m.th = 0))) && decide (0 ≤ m.tid)) && decide (m.tid < 3)) && sameM m { Mt0 m.kd with yes := m.yes, th := m.th, tid := m.tid }) := by
  have hb : bareM m = { Mt0 m.kd with yes := m.yes, th := m.th, tid := m.tid } := by unfold bareM Mt0; simp [hk]
  have hf : fitM m = (decide (0 ≤ m.th) && (decide (m.th ≤ 20) && (!m.yes || decide (m.th = 0)))) := by unfold fitM; simp [hk]
  unfold mayM
  rw [hb, hf]
  generalize hs : sameM m { Mt0 m.kd with yes := m.yes, th := m.th, tid := m.tid } = sm
  cases sm
  · simp
  · simp [Bool.and_comm, Bool.and_left_comm, Bool.and_assoc]
theorem mayM_4 (m : Mt) (hk : m.kd = 4) : mayM m = ((decide (0 ≤ m.tid) && decide (m.tid < 3)) && sameM m { Mt0 m.kd with tid := m.tid }) := by
  have hb : bareM m = { Mt0 m.kd with tid := m.tid } := by unfold bareM Mt0; simp [hk]
  have hf : fitM m = true := by unfold fitM; simp [hk]
  unfold mayM
  rw [hb, hf]
  generalize hs : sameM m { Mt0 m.kd with tid := m.tid } = sm
  cases sm
  · simp
  · simp [Bool.and_comm, Bool.and_left_comm, Bool.and_assoc]
theorem mayM_5 (m : Mt) (hk : m.kd = 5) : mayM m = (pendB m.p && sameM m { Mt0 m.kd with p := m.p }) := by
  have hb : bareM m = { Mt0 m.kd with p := m.p } := by unfold bareM Mt0; simp [hk]
  have hf : fitM m = pendB m.p := by unfold fitM; simp [hk]
  unfold mayM
  rw [hb, hf]
  generalize hs : sameM m { Mt0 m.kd with p := m.p } = sm
  cases sm
  · simp
  · have ht : m.tid = 0 := sameM_tid hs
    simp [ht]
theorem mayM_6 (m : Mt) (hk : m.kd = 6) : mayM m = ((((decide (m.c.ps.length = 0) && mayB m.c) && decide (0 ≤ m.tid)) && decide (m.tid < 3)) && sameM m { Mt0 m.kd with c := m.c, tid := m.tid }) := by
  have hb : bareM m = { Mt0 m.kd with c := m.c, tid := m.tid } := by unfold bareM Mt0; simp [hk]
  have hf : fitM m = (decide (m.c.ps.length = 0) && mayB m.c) := by unfold fitM; simp [hk]
  unfold mayM
  rw [hb, hf]
  generalize hs : sameM m { Mt0 m.kd with c := m.c, tid := m.tid } = sm
  cases sm
  · simp
  · simp [Bool.and_comm, Bool.and_left_comm, Bool.and_assoc]
theorem mayM_7 (m : Mt) (hk : m.kd = 7) : mayM m = ((decide (0 ≤ m.nx) && decide (m.nx ≤ 8)) && sameM m { Mt0 m.kd with nx := m.nx }) := by
  have hb : bareM m = { Mt0 m.kd with nx := m.nx } := by unfold bareM Mt0; simp [hk]
  have hf : fitM m = (decide (0 ≤ m.nx) && decide (m.nx ≤ 8)) := by unfold fitM; simp [hk]
  unfold mayM
  rw [hb, hf]
  generalize hs : sameM m { Mt0 m.kd with nx := m.nx } = sm
  cases sm
  · simp
  · have ht : m.tid = 0 := sameM_tid hs
    simp [ht]
theorem mayM_no (m : Mt) (h : ∀ k : Int, 0 ≤ k → k ≤ 7 → ¬ m.kd = k) : mayM m = false := by
  have hf : fitM m = false := by
    unfold fitM
    rw [if_neg (by rintro (h' | h'); exact h 0 (by decide) (by decide) h'; exact h 4 (by decide) (by decide) h'), if_neg (h 1 (by decide) (by decide)), if_neg (by rintro (h' | h'); exact h 2 (by decide) (by decide) h'; exact h 5 (by decide) (by decide) h'), if_neg (h 3 (by decide) (by decide)), if_neg (h 6 (by decide) (by decide)), if_neg (h 7 (by decide) (by decide))]
  unfold mayM
  rw [hf]
  simp
set_option maxRecDepth 100000 in
set_option maxHeartbeats 8000000 in
theorem mMay_0 (m : Mt) (A1 D1 : Option Addr) (c1 e1 B : Nat) (w : World) (h1 : CoR w B m.c A1 D1) (hB : B ≤ w.heap.size) (hk : m.kd = 0) :
    Calls Tryz.prog 18 #[.agg (mtX m A1 D1 c1 e1)] w fun e w' => e = .returned (.bool (mayM m)) ∧ Below w.heap.size w w' := by
  obtain ⟨W0, hW0⟩ : ∃ W0, W0 = w.alloc (.cells (mtX m A1 D1 c1 e1) 42) := ⟨_, rfl⟩
  have s0 : W0.heap.size = w.heap.size + 1 := by rw [hW0]; simp
  have B0 : Below w.heap.size w W0 := by rw [hW0]; exact bal (Below.refl _ _) _
  have K0 : Blk W0 w.heap.size 42 (mtX m A1 D1 c1 e1) := by rw [hW0]; exact Blk.new w 42 _
  have x0 := mt_cell K0 (j := 0) rfl
  obtain ⟨W1, st1, kk, bb, ss⟩ := bk_fresh (P := Tryz.prog) W0 42 #[.int .i8 0, .int .i64 0, .int .i64 0, .int .i64 0, .int .i64 0, .int .i64 0, .bool false, .int .i64 0, .int .i8 0, .int .i64 0, .int .i64 0, .int .i64 0, .int .i64 0, .slice none 0 0, .slice none 0 0, .int .i64 0, .int .i64 0] #[.int .i8 m.kd, .int .i64 0, .int .i64 0, .int .i64 0, .int .i64 0, .int .i64 0, .bool false, .int .i64 0, .int .i8 0, .int .i64 0, .int .i64 0, .int .i64 0, .int .i64 0, .slice none 0 0, .slice none 0 0, .int .i64 0, .int .i64 0] 17 infoMt rfl rfl (by simp [Value.oneCell'])

  have M1 : MtE w.heap.size w.heap.size W0.heap.size w (mtX m A1 D1 c1 e1) (mtX (Mt0 m.kd) none none 0 0) W1 := ⟨K0.below bb K0.lt, kk, B0.trans (bb.mono B0.size), by omega, by omega⟩
  have HW := Lib.hid hW0
  have HS := Lib.hid s0
  have H1 := Lib.hid h1
  have HBB := Lib.hid hB
  have cc0 : (m.kd == 0) = true := by rw [hk]; rfl
  have cc4 : (m.kd == 4) = false := by rw [hk]; rfl
  have cc1 : (m.kd == 1) = false := by rw [hk]; rfl
  have cc2 : (m.kd == 2) = false := by rw [hk]; rfl
  have cc5 : (m.kd == 5) = false := by rw [hk]; rfl
  have cc3 : (m.kd == 3) = false := by rw [hk]; rfl
  have cc6 : (m.kd == 6) = false := by rw [hk]; rfl
  have cc7 : (m.kd == 7) = false := by rw [hk]; rfl

  have SMA := Lib.hid (fun W (h : Below w.heap.size w W) => mSame_any m { Mt0 m.kd with } A1 D1 none none c1 e1 0 0 B 0 W (H1.out.below (h.mono HBB.out)) (co0_R _ _) (Nat.le_trans HBB.out h.size) (Nat.zero_le _))
  have HM := Lib.hid (mayM_0 m hk)
  generalize sameM m { Mt0 m.kd with } = sm at *
  clear hW0 s0 B0 K0 kk bb ss h1 hB hk
  have v0 := mt_cell M1.k1 (j := 0) rfl
  have HM1 := Lib.hid M1
  clear M1
  go_enter Tryz.func18, Tryz.ntmps18
  go_upto_region 1 with (fail)
  rw [← HW.out]
  have l1 := mt_load (P := Tryz.prog) HM1.out.k1
  have l2 := mt_load (P := Tryz.prog) HM1.out.k2
  have SM := Lib.hid (SMA.out _ HM1.out.bel)
  go_wp2_with fail
  refine SM.out.mono ?_
  rintro e w9 ⟨rfl, b9⟩
  have B9 := Lib.hid (HM1.out.bel.trans (b9.mono HM1.out.bel.size))
  clear b9 l1 l2
  go_wp2_with fail
  go_ret
  rw [HM.out]
  exact ⟨by simp, B9.out⟩
set_option maxRecDepth 100000 in
set_option maxHeartbeats 8000000 in
theorem mMay_4 (m : Mt) (A1 D1 : Option Addr) (c1 e1 B : Nat) (w : World) (h1 : CoR w B m.c A1 D1) (hB : B ≤ w.heap.size) (hk : m.kd = 4) :
    Calls Tryz.prog 18 #[.agg (mtX m A1 D1 c1 e1)] w fun e w' => e = .returned (.bool (mayM m)) ∧ Below w.heap.size w w' := by
  obtain ⟨W0, hW0⟩ : ∃ W0, W0 = w.alloc (.cells (mtX m A1 D1 c1 e1) 42) := ⟨_, rfl⟩
  have s0 : W0.heap.size = w.heap.size + 1 := by rw [hW0]; simp
  have B0 : Below w.heap.size w W0 := by rw [hW0]; exact bal (Below.refl _ _) _
  have K0 : Blk W0 w.heap.size 42 (mtX m A1 D1 c1 e1) := by rw [hW0]; exact Blk.new w 42 _
  have x0 := mt_cell K0 (j := 0) rfl
  obtain ⟨W1, st1, kk, bb, ss⟩ := bk_fresh (P := Tryz.prog) W0 42 #[.int .i8 0, .int .i64 0, .int .i64 0, .int .i64 0, .int .i64 0, .int .i64 0, .bool false, .int .i64 0, .int .i8 0, .int .i64 0, .int .i64 0, .int .i64 0, .int .i64 0, .slice none 0 0, .slice none 0 0, .int .i64 0, .int .i64 0] #[.int .i8 m.kd, .int .i64 0, .int .i64 0, .int .i64 0, .int .i64 0, .int .i64 0, .bool false, .int .i64 0, .int .i8 0, .int .i64 0, .int .i64 0, .int .i64 0, .int .i64 0, .slice none 0 0, .slice none 0 0, .int .i64 0, .int .i64 0] 17 infoMt rfl rfl (by simp [Value.oneCell'])

  have M1 : MtE w.heap.size w.heap.size W0.heap.size w (mtX m A1 D1 c1 e1) (mtX (Mt0 m.kd) none none 0 0) W1 := ⟨K0.below bb K0.lt, kk, B0.trans (bb.mono B0.size), by omega, by omega⟩
  have HW := Lib.hid hW0
  have HS := Lib.hid s0
  have H1 := Lib.hid h1
  have HBB := Lib.hid hB
  have cc0 : (m.kd == 0) = false := by rw [hk]; rfl
  have cc4 : (m.kd == 4) = true := by rw [hk]; rfl
  have cc1 : (m.kd == 1) = false := by rw [hk]; rfl
  have cc2 : (m.kd == 2) = false := by rw [hk]; rfl
  have cc5 : (m.kd == 5) = false := by rw [hk]; rfl
  have cc3 : (m.kd == 3) = false := by rw [hk]; rfl
  have cc6 : (m.kd == 6) = false := by rw [hk]; rfl
  have cc7 : (m.kd == 7) = false := by rw [hk]; rfl

  have SMA := Lib.hid (fun W (h : Below w.heap.size w W) => mSame_any m { Mt0 m.kd with tid := m.tid } A1 D1 none none c1 e1 0 0 B 0 W (H1.out.below (h.mono HBB.out)) (co0_R _ _) (Nat.le_trans HBB.out h.size) (Nat.zero_le _))
  have HM := Lib.hid (mayM_4 m hk)
  generalize sameM m { Mt0 m.kd with tid := m.tid } = sm at *
  clear hW0 s0 B0 K0 kk bb ss h1 hB hk
  have v0 := mt_cell M1.k1 (j := 0) rfl
  have v1 := mt_cell M1.k1 (j := 1) rfl
  obtain ⟨W2, st2, M2⟩ := M1.int 1 m.tid (mtX { Mt0 m.kd with tid := m.tid } none none 0 0) (by rw [mtX_size]; decide) rfl
  have z1 := mt_cell M2.k1 (j := 1) rfl
  have HM3 := Lib.hid M2
  clear M1 M2
  generalize hu1 : decide (0 ≤ m.tid) = u1 at HM
  generalize hu2 : decide (m.tid < 3) = u2 at HM
  cases u1
  · go_enter Tryz.func18, Tryz.ntmps18
    go_upto_region 1 with (fail)
    rw [← HW.out]
    go_wp2_with fail
    go_ret
    rw [HM.out]
    exact ⟨by simp, HM3.out.bel⟩
  cases u2
  · go_enter Tryz.func18, Tryz.ntmps18
    go_upto_region 1 with (fail)
    rw [← HW.out]
    go_wp2_with fail
    go_ret
    rw [HM.out]
    exact ⟨by simp, HM3.out.bel⟩
  go_enter Tryz.func18, Tryz.ntmps18
  go_upto_region 1 with (fail)
  rw [← HW.out]
  have l1 := mt_load (P := Tryz.prog) HM3.out.k1
  have l2 := mt_load (P := Tryz.prog) HM3.out.k2
  have SM := Lib.hid (SMA.out _ HM3.out.bel)
  go_wp2_with fail
  refine SM.out.mono ?_
  rintro e w9 ⟨rfl, b9⟩
  have B9 := Lib.hid (HM3.out.bel.trans (b9.mono HM3.out.bel.size))
  clear b9 l1 l2
  go_wp2_with fail
  go_ret
  rw [HM.out]
  exact ⟨by simp, B9.out⟩
set_option maxRecDepth 100000 in
set_option maxHeartbeats 8000000 in
theorem mMay_7 (m : Mt) (A1 D1 : Option Addr) (c1 e1 B : Nat) (w : World) (h1 : CoR w B m.c A1 D1) (hB : B ≤ w.heap.size) (hk : m.kd = 7) :
    Calls Tryz.prog 18 #[.agg (mtX m A1 D1 c1 e1)] w fun e w' => e = .returned (.bool (mayM m)) ∧ Below w.heap.size w w' := by
  obtain ⟨W0, hW0⟩ : ∃ W0, W0 = w.alloc (.cells (mtX m A1 D1 c1 e1) 42) := ⟨_, rfl⟩
  have s0 : W0.heap.size = w.heap.size + 1 := by rw [hW0]; simp
  have B0 : Below w.heap.size w W0 := by rw [hW0]; exact bal (Below.refl _ _) _
  have K0 : Blk W0 w.heap.size 42 (mtX m A1 D1 c1 e1) := by rw [hW0]; exact Blk.new w 42 _
  have x0 := mt_cell K0 (j := 0) rfl
  obtain ⟨W1, st1, kk, bb, ss⟩ := bk_fresh (P := Tryz.prog) W0 42 #[.int .i8 0, .int .i64 0, .int .i64 0, .int .i64 0, .int .i64 0, .int .i64 0, .bool false, .int .i64 0, .int .i8 0, .int .i64 0, .int .i64 0, .int .i64 0, .int .i64 0, .slice none 0 0, .slice none 0 0, .int .i64 0, .int .i64 0] #[.int .i8 m.kd, .int .i64 0, .int .i64 0, .int .i64 0, .int .i64 0, .int .i64 0, .bool false, .int .i64 0, .int .i8 0, .int .i64 0, .int .i64 0, .int .i64 0, .int .i64 0, .slice none 0 0, .slice none 0 0, .int .i64 0, .int .i64 0] 17 infoMt rfl rfl (by simp [Value.oneCell'])

  have M1 : MtE w.heap.size w.heap.size W0.heap.size w (mtX m A1 D1 c1 e1) (mtX (Mt0 m.kd) none none 0 0) W1 := ⟨K0.below bb K0.lt, kk, B0.trans (bb.mono B0.size), by omega, by omega⟩
  have HW := Lib.hid hW0
  have HS := Lib.hid s0
  have H1 := Lib.hid h1
  have HBB := Lib.hid hB
  have cc0 : (m.kd == 0) = false := by rw [hk]; rfl
  have cc4 : (m.kd == 4) = false := by rw [hk]; rfl
  have cc1 : (m.kd == 1) = false := by rw [hk]; rfl
  have cc2 : (m.kd == 2) = false := by rw [hk]; rfl
  have cc5 : (m.kd == 5) = false := by rw [hk]; rfl
  have cc3 : (m.kd == 3) = false := by rw [hk]; rfl
  have cc6 : (m.kd == 6) = false := by rw [hk]; rfl
  have cc7 : (m.kd == 7) = true := by rw [hk]; rfl

  have SMA := Lib.hid (fun W (h : Below w.heap.size w W) => mSame_any m { Mt0 m.kd with nx := m.nx } A1 D1 none none c1 e1 0 0 B 0 W (H1.out.below (h.mono HBB.out)) (co0_R _ _) (Nat.le_trans HBB.out h.size) (Nat.zero_le _))
  have HM := Lib.hid (mayM_7 m hk)
  generalize sameM m { Mt0 m.kd with nx := m.nx } = sm at *
  clear hW0 s0 B0 K0 kk bb ss h1 hB hk
  have v0 := mt_cell M1.k1 (j := 0) rfl
  have v16 := mt_cell M1.k1 (j := 16) rfl
  obtain ⟨W2, st2, M2⟩ := M1.int 16 m.nx (mtX { Mt0 m.kd with nx := m.nx } none none 0 0) (by rw [mtX_size]; decide) rfl
  have z0 := mt_cell M2.k1 (j := 0) rfl
  have z16 := mt_cell M2.k1 (j := 16) rfl
  have HM3 := Lib.hid M2
  clear M1 M2
  generalize hu1 : decide (0 ≤ m.nx) = u1 at HM
  generalize hu2 : decide (m.nx ≤ 8) = u2 at HM
  cases u1
  · go_enter Tryz.func18, Tryz.ntmps18
    go_upto_region 1 with (fail)
    rw [← HW.out]
    go_wp2_with fail
    go_ret
    rw [HM.out]
    exact ⟨by simp, HM3.out.bel⟩
  cases u2
  · go_enter Tryz.func18, Tryz.ntmps18
    go_upto_region 1 with (fail)
    rw [← HW.out]
    go_wp2_with fail
    go_ret
    rw [HM.out]
    exact ⟨by simp, HM3.out.bel⟩
  go_enter Tryz.func18, Tryz.ntmps18
  go_upto_region 1 with (fail)
  rw [← HW.out]
  have l1 := mt_load (P := Tryz.prog) HM3.out.k1
  have l2 := mt_load (P := Tryz.prog) HM3.out.k2
  have SM := Lib.hid (SMA.out _ HM3.out.bel)
  go_wp2_with fail
  refine SM.out.mono ?_
  rintro e w9 ⟨rfl, b9⟩
  have B9 := Lib.hid (HM3.out.bel.trans (b9.mono HM3.out.bel.size))
  clear b9 l1 l2
  go_wp2_with fail
  go_ret
  rw [HM.out]
  exact ⟨by simp, B9.out⟩
set_option maxRecDepth 100000 in
set_option maxHeartbeats 8000000 in
theorem mMay_1 (m : Mt) (A1 D1 : Option Addr) (c1 e1 B : Nat) (w : World) (h1 : CoR w B m.c A1 D1) (hB : B ≤ w.heap.size) (hk : m.kd = 1) :
    Calls Tryz.prog 18 #[.agg (mtX m A1 D1 c1 e1)] w fun e w' => e = .returned (.bool (mayM m)) ∧ Below w.heap.size w w' := by
  obtain ⟨W0, hW0⟩ : ∃ W0, W0 = w.alloc (.cells (mtX m A1 D1 c1 e1) 42) := ⟨_, rfl⟩
  have s0 : W0.heap.size = w.heap.size + 1 := by rw [hW0]; simp
  have B0 : Below w.heap.size w W0 := by rw [hW0]; exact bal (Below.refl _ _) _
  have K0 : Blk W0 w.heap.size 42 (mtX m A1 D1 c1 e1) := by rw [hW0]; exact Blk.new w 42 _
  have x0 := mt_cell K0 (j := 0) rfl
  obtain ⟨W1, st1, kk, bb, ss⟩ := bk_fresh (P := Tryz.prog) W0 42 #[.int .i8 0, .int .i64 0, .int .i64 0, .int .i64 0, .int .i64 0, .int .i64 0, .bool false, .int .i64 0, .int .i8 0, .int .i64 0, .int .i64 0, .int .i64 0, .int .i64 0, .slice none 0 0, .slice none 0 0, .int .i64 0, .int .i64 0] #[.int .i8 m.kd, .int .i64 0, .int .i64 0, .int .i64 0, .int .i64 0, .int .i64 0, .bool false, .int .i64 0, .int .i8 0, .int .i64 0, .int .i64 0, .int .i64 0, .int .i64 0, .slice none 0 0, .slice none 0 0, .int .i64 0, .int .i64 0] 17 infoMt rfl rfl (by simp [Value.oneCell'])

  have M1 : MtE w.heap.size w.heap.size W0.heap.size w (mtX m A1 D1 c1 e1) (mtX (Mt0 m.kd) none none 0 0) W1 := ⟨K0.below bb K0.lt, kk, B0.trans (bb.mono B0.size), by omega, by omega⟩
  have HW := Lib.hid hW0
  have HS := Lib.hid s0
  have H1 := Lib.hid h1
  have HBB := Lib.hid hB
  have cc0 : (m.kd == 0) = false := by rw [hk]; rfl
  have cc4 : (m.kd == 4) = false := by rw [hk]; rfl
  have cc1 : (m.kd == 1) = true := by rw [hk]; rfl
  have cc2 : (m.kd == 2) = false := by rw [hk]; rfl
  have cc5 : (m.kd == 5) = false := by rw [hk]; rfl
  have cc3 : (m.kd == 3) = false := by rw [hk]; rfl
  have cc6 : (m.kd == 6) = false := by rw [hk]; rfl
  have cc7 : (m.kd == 7) = false := by rw [hk]; rfl

  have SMA := Lib.hid (fun W (h : Below w.heap.size w W) => mSame_any m { Mt0 m.kd with tm := m.tm, tid := m.tid } A1 D1 none none c1 e1 0 0 B 0 W (H1.out.below (h.mono HBB.out)) (co0_R _ _) (Nat.le_trans HBB.out h.size) (Nat.zero_le _))
  have HM := Lib.hid (mayM_1 m hk)
  generalize sameM m { Mt0 m.kd with tm := m.tm, tid := m.tid } = sm at *
  clear hW0 s0 B0 K0 kk bb ss h1 hB hk
  have v0 := mt_cell M1.k1 (j := 0) rfl
  obtain ⟨W2, st2, M2⟩ := M1.int 2 m.tm (mtX { Mt0 m.kd with tm := m.tm } none none 0 0) (by rw [mtX_size]; decide) rfl
  obtain ⟨W3, st3, M3⟩ := M2.int 1 m.tid (mtX { Mt0 m.kd with tm := m.tm, tid := m.tid } none none 0 0) (by rw [mtX_size]; decide) rfl
  have v0 := mt_cell M1.k1 (j := 0) rfl
  have x2 := mt_cell M1.k1 (j := 2) rfl
  have y2 := mt_cell M2.k1 (j := 2) rfl
  have y0 := mt_cell M2.k1 (j := 0) rfl
  have y1 := mt_cell M2.k1 (j := 1) rfl
  have z1 := mt_cell M3.k1 (j := 1) rfl
  have HM3 := Lib.hid M3
  clear M1 M2 M3
  generalize hu1 : decide (1 ≤ m.tm) = u1 at HM
  generalize hu2 : decide (m.tm ≤ 20) = u2 at HM
  generalize hu3 : decide (0 ≤ m.tid) = u3 at HM
  generalize hu4 : decide (m.tid < 3) = u4 at HM
  cases u1
  · go_enter Tryz.func18, Tryz.ntmps18
    go_upto_region 1 with (fail)
    rw [← HW.out]
    go_wp2_with fail
    go_ret
    rw [HM.out]
    exact ⟨by simp, HM3.out.bel⟩
  cases u2
  · go_enter Tryz.func18, Tryz.ntmps18
    go_upto_region 1 with (fail)
    rw [← HW.out]
    go_wp2_with fail
    go_ret
    rw [HM.out]
    exact ⟨by simp, HM3.out.bel⟩
  cases u3
  · go_enter Tryz.func18, Tryz.ntmps18
    go_upto_region 1 with (fail)
    rw [← HW.out]
    go_wp2_with fail
    go_ret
    rw [HM.out]
    exact ⟨by simp, HM3.out.bel⟩
  cases u4
  · go_enter Tryz.func18, Tryz.ntmps18
    go_upto_region 1 with (fail)
    rw [← HW.out]
    go_wp2_with fail
    go_ret
    rw [HM.out]
    exact ⟨by simp, HM3.out.bel⟩
  have l1 := mt_load (P := Tryz.prog) HM3.out.k1
  have l2 := mt_load (P := Tryz.prog) HM3.out.k2
  have SM := Lib.hid (SMA.out _ HM3.out.bel)
  go_enter Tryz.func18, Tryz.ntmps18
  go_upto_region 1 with (fail)
  rw [← HW.out]
  go_wp2_with fail
  refine SM.out.mono ?_
  rintro e w9 ⟨rfl, b9⟩
  have B9 := Lib.hid (HM3.out.bel.trans (b9.mono HM3.out.bel.size))
  clear b9 l1 l2
  go_wp2_with fail
  go_ret
  rw [HM.out]
  exact ⟨by simp, B9.out⟩
set_option maxRecDepth 100000 in
set_option maxHeartbeats 8000000 in
theorem mMay_3 (m : Mt) (A1 D1 : Option Addr) (c1 e1 B : Nat) (w : World) (h1 : CoR w B m.c A1 D1) (hB : B ≤ w.heap.size) (hk : m.kd = 3) :
    Calls Tryz.prog 18 #[.agg (mtX m A1 D1 c1 e1)] w fun e w' => e = .returned (.bool (mayM m)) ∧ Below w.heap.size w w' := by
  obtain ⟨W0, hW0⟩ : ∃ W0, W0 = w.alloc (.cells (mtX m A1 D1 c1 e1) 42) := ⟨_, rfl⟩
  have s0 : W0.heap.size = w.heap.size + 1 := by rw [hW0]; simp
  have B0 : Below w.heap.size w W0 := by rw [hW0]; exact bal (Below.refl _ _) _
  have K0 : Blk W0 w.heap.size 42 (mtX m A1 D1 c1 e1) := by rw [hW0]; exact Blk.new w 42 _
  have x0 := mt_cell K0 (j := 0) rfl
  obtain ⟨W1, st1, kk, bb, ss⟩ := bk_fresh (P := Tryz.prog) W0 42 #[.int .i8 0, .int .i64 0, .int .i64 0, .int .i64 0, .int .i64 0, .int .i64 0, .bool false, .int .i64 0, .int .i8 0, .int .i64 0, .int .i64 0, .int .i64 0, .int .i64 0, .slice none 0 0, .slice none 0 0, .int .i64 0, .int .i64 0] #[.int .i8 m.kd, .int .i64 0, .int .i64 0, .int .i64 0, .int .i64 0, .int .i64 0, .bool false, .int .i64 0, .int .i8 0, .int .i64 0, .int .i64 0, .int .i64 0, .int .i64 0, .slice none 0 0, .slice none 0 0, .int .i64 0, .int .i64 0] 17 infoMt rfl rfl (by simp [Value.oneCell'])

  have M1 : MtE w.heap.size w.heap.size W0.heap.size w (mtX m A1 D1 c1 e1) (mtX (Mt0 m.kd) none none 0 0) W1 := ⟨K0.below bb K0.lt, kk, B0.trans (bb.mono B0.size), by omega, by omega⟩
  have HW := Lib.hid hW0
  have HS := Lib.hid s0
  have H1 := Lib.hid h1
  have HBB := Lib.hid hB
  have cc0 : (m.kd == 0) = false := by rw [hk]; rfl
  have cc4 : (m.kd == 4) = false := by rw [hk]; rfl
  have cc1 : (m.kd == 1) = false := by rw [hk]; rfl
  have cc2 : (m.kd == 2) = false := by rw [hk]; rfl
  have cc5 : (m.kd == 5) = false := by rw [hk]; rfl
  have cc3 : (m.kd == 3) = true := by rw [hk]; rfl
  have cc6 : (m.kd == 6) = false := by rw [hk]; rfl
  have cc7 : (m.kd == 7) = false := by rw [hk]; rfl

  have SMA := Lib.hid (fun W (h : Below w.heap.size w W) => mSame_any m { Mt0 m.kd with yes := m.yes, th := m.th, tid := m.tid } A1 D1 none none c1 e1 0 0 B 0 W (H1.out.below (h.mono HBB.out)) (co0_R _ _) (Nat.le_trans HBB.out h.size) (Nat.zero_le _))
  have HM := Lib.hid (mayM_3 m hk)
  generalize sameM m { Mt0 m.kd with yes := m.yes, th := m.th, tid := m.tid } = sm at *
  clear hW0 s0 B0 K0 kk bb ss h1 hB hk
  have v0 := mt_cell M1.k1 (j := 0) rfl
  have N1 := M1.drew
  have a6 := mt_cell N1.k1 (j := 6) rfl
  have a7 := mt_cell N1.k1 (j := 7) rfl
  obtain ⟨W2, st2, M2⟩ := N1.bool 6 m.yes (mtX { Mt0 m.kd with yes := m.yes } none none 0 0) (by rw [mtX_size]; decide) rfl
  obtain ⟨W3, st3, M3⟩ := M2.int 7 m.th (mtX { Mt0 m.kd with yes := m.yes, th := m.th } none none 0 0) (by rw [mtX_size]; decide) rfl
  obtain ⟨W4, st4, M4⟩ := M3.int 1 m.tid (mtX { Mt0 m.kd with yes := m.yes, th := m.th, tid := m.tid } none none 0 0) (by rw [mtX_size]; decide) rfl
  have b6 := mt_cell M2.k1 (j := 6) rfl
  have b7 := mt_cell M2.k1 (j := 7) rfl
  have q0 := mt_cell M3.k1 (j := 0) rfl
  have q1 := mt_cell M3.k1 (j := 1) rfl
  have q6 := mt_cell M3.k1 (j := 6) rfl
  have q7 := mt_cell M3.k1 (j := 7) rfl
  have d1 := mt_cell M4.k1 (j := 1) rfl
  have HM3 := Lib.hid M4
  clear M1 N1 M2 M3 M4
  generalize hu1 : decide (0 ≤ m.th) = u1 at HM
  generalize hu2 : decide (m.th ≤ 20) = u2 at HM
  generalize hu3 : decide (m.th = 0) = u3 at HM
  generalize hu4 : decide (0 ≤ m.tid) = u4 at HM
  generalize hu5 : decide (m.tid < 3) = u5 at HM
  have hu3' : (m.th == 0) = u3 := by rw [← hu3]; rfl
  go_enter Tryz.func18, Tryz.ntmps18
  go_upto_region 1 with (fail)
  rw [← HW.out]
  go_wp2_with fail
  apply wp_region_join [[0, 1, 2, 3, 4, 5], [0, 1, 2, 4, 3, 5], [0, 1, 2, 4, 5, 3], [0, 1, 4, 2, 3, 5], [0, 1, 4, 2, 5, 3], [0, 1, 4, 5, 2, 3], [0, 2, 1, 3, 4, 5], [0, 2, 1, 4, 3, 5], [0, 2, 1, 4, 5, 3], [0, 2, 3, 1, 4, 5], [2, 0, 1, 3, 4, 5], [2, 0, 1, 4, 3, 5], [2, 0, 1, 4, 5, 3], [2, 0, 3, 1, 4, 5], [2, 3, 0, 1, 4, 5]] [6, 7] (fun W3 => W3 = W2)
  · kernel_rfl
  · kernel_rfl
  · intro o ho
    simp only [List.mem_cons, List.not_mem_nil, or_false] at ho
    rcases ho with rfl | rfl | rfl | rfl | rfl | rfl | rfl | rfl | rfl | rfl | rfl | rfl | rfl | rfl | rfl
    all_goals (
      simp only [List.filterMap_cons, List.filterMap_nil, List.getElem?_cons_succ, List.getElem?_cons_zero]
      go_wp2_with fail
      exact ⟨rfl, rfl⟩)
  rintro w3 rfl
  simp only [List.filterMap_cons, List.filterMap_nil, List.getElem?_cons_succ, List.getElem?_cons_zero]
  clear a6 a7 b6 b7 v0 x0 st1 st2
  cases u1
  · go_wp2_with fail
    go_ret
    rw [HM.out]
    exact ⟨by simp, HM3.out.bel⟩
  cases u2
  · go_wp2_with fail
    go_ret
    rw [HM.out]
    exact ⟨by simp, HM3.out.bel⟩
  cases hyes : m.yes
  · rw [hyes] at HM q6
    clear hyes
    cases u4
    · go_wp2_with fail
      go_ret
      rw [HM.out]
      exact ⟨by simp, HM3.out.bel⟩
    cases u5
    · go_wp2_with fail
      go_ret
      rw [HM.out]
      exact ⟨by simp, HM3.out.bel⟩
    have l1 := mt_load (P := Tryz.prog) HM3.out.k1
    have l2 := mt_load (P := Tryz.prog) HM3.out.k2
    have SM := Lib.hid (SMA.out _ HM3.out.bel)
    go_wp2_with fail
    refine SM.out.mono ?_
    rintro e w9 ⟨rfl, b9⟩
    have B9 := Lib.hid (HM3.out.bel.trans (b9.mono HM3.out.bel.size))
    clear b9 l1 l2
    go_wp2_with fail
    go_ret
    rw [HM.out]
    exact ⟨by simp, B9.out⟩
  · rw [hyes] at HM q6
    clear hyes
    cases u3
    · go_wp2_with fail
      go_ret
      rw [HM.out]
      exact ⟨by simp, HM3.out.bel⟩
    cases u4
    · go_wp2_with fail
      go_ret
      rw [HM.out]
      exact ⟨by simp, HM3.out.bel⟩
    cases u5
    · go_wp2_with fail
      go_ret
      rw [HM.out]
      exact ⟨by simp, HM3.out.bel⟩
    have l1 := mt_load (P := Tryz.prog) HM3.out.k1
    have l2 := mt_load (P := Tryz.prog) HM3.out.k2
    have SM := Lib.hid (SMA.out _ HM3.out.bel)
    go_wp2_with fail
    refine SM.out.mono ?_
    rintro e w9 ⟨rfl, b9⟩
    have B9 := Lib.hid (HM3.out.bel.trans (b9.mono HM3.out.bel.size))
    clear b9 l1 l2
    go_wp2_with fail
    go_ret
    rw [HM.out]
    exact ⟨by simp, B9.out⟩
set_option maxRecDepth 100000 in
set_option maxHeartbeats 8000000 in
theorem mMay_2 (m : Mt) (A1 D1 : Option Addr) (c1 e1 B : Nat) (w : World) (h1 : CoR w B m.c A1 D1) (hB : B ≤ w.heap.size) (hk : m.kd = 2) :
    Calls Tryz.prog 18 #[.agg (mtX m A1 D1 c1 e1)] w fun e w' => e = .returned (.bool (mayM m)) ∧ Below w.heap.size w w' := by
  obtain ⟨W0, hW0⟩ : ∃ W0, W0 = w.alloc (.cells (mtX m A1 D1 c1 e1) 42) := ⟨_, rfl⟩
  have s0 : W0.heap.size = w.heap.size + 1 := by rw [hW0]; simp
  have B0 : Below w.heap.size w W0 := by rw [hW0]; exact bal (Below.refl _ _) _
  have K0 : Blk W0 w.heap.size 42 (mtX m A1 D1 c1 e1) := by rw [hW0]; exact Blk.new w 42 _
  have x0 := mt_cell K0 (j := 0) rfl
  obtain ⟨W1, st1, kk, bb, ss⟩ := bk_fresh (P := Tryz.prog) W0 42 #[.int .i8 0, .int .i64 0, .int .i64 0, .int .i64 0, .int .i64 0, .int .i64 0, .bool false, .int .i64 0, .int .i8 0, .int .i64 0, .int .i64 0, .int .i64 0, .int .i64 0, .slice none 0 0, .slice none 0 0, .int .i64 0, .int .i64 0] #[.int .i8 m.kd, .int .i64 0, .int .i64 0, .int .i64 0, .int .i64 0, .int .i64 0, .bool false, .int .i64 0, .int .i8 0, .int .i64 0, .int .i64 0, .int .i64 0, .int .i64 0, .slice none 0 0, .slice none 0 0, .int .i64 0, .int .i64 0] 17 infoMt rfl rfl (by simp [Value.oneCell'])

  have M1 : MtE w.heap.size w.heap.size W0.heap.size w (mtX m A1 D1 c1 e1) (mtX (Mt0 m.kd) none none 0 0) W1 := ⟨K0.below bb K0.lt, kk, B0.trans (bb.mono B0.size), by omega, by omega⟩
  have HW := Lib.hid hW0
  have HS := Lib.hid s0
  have H1 := Lib.hid h1
  have HBB := Lib.hid hB
  have cc0 : (m.kd == 0) = false := by rw [hk]; rfl
  have cc4 : (m.kd == 4) = false := by rw [hk]; rfl
  have cc1 : (m.kd == 1) = false := by rw [hk]; rfl
  have cc2 : (m.kd == 2) = true := by rw [hk]; rfl
  have cc5 : (m.kd == 5) = false := by rw [hk]; rfl
  have cc3 : (m.kd == 3) = false := by rw [hk]; rfl
  have cc6 : (m.kd == 6) = false := by rw [hk]; rfl
  have cc7 : (m.kd == 7) = false := by rw [hk]; rfl
  have IP := Lib.hid (fun W => mIsPend_any m.p W)
  have SMA := Lib.hid (fun W (h : Below w.heap.size w W) => mSame_any m { Mt0 m.kd with p := m.p, tid := m.tid } A1 D1 none none c1 e1 0 0 B 0 W (H1.out.below (h.mono HBB.out)) (co0_R _ _) (Nat.le_trans HBB.out h.size) (Nat.zero_le _))
  have HM := Lib.hid (mayM_2 m hk)
  generalize sameM m { Mt0 m.kd with p := m.p, tid := m.tid } = sm at *
  clear hW0 s0 B0 K0 kk bb ss h1 hB hk
  generalize hu1 : pendB m.p = u1 at HM IP
  have v0 := mt_cell M1.k1 (j := 0) rfl
  have vp := mt_pend (P := Tryz.prog) M1.k1
  obtain ⟨W2, st2, M2⟩ := M1.pend m.p
  have zp := mt_pend (P := Tryz.prog) M2.k1
  have HM2 := Lib.hid M2
  clear M1 M2
  go_enter Tryz.func18, Tryz.ntmps18
  go_upto_region 1 with (fail)
  rw [← HW.out]
  go_wp2_with fail
  refine (IP.out _).mono ?_
  rintro e w3 ⟨rfl, b3⟩
  have M3 := HM2.out.below HM2.out.bel.size b3
  clear b3
  have y0 := mt_cell M3.k1 (j := 0) rfl
  have y1 := mt_cell M3.k1 (j := 1) rfl
  obtain ⟨W4, st4, M4⟩ := M3.int 1 m.tid (mtX { Mt0 m.kd with p := m.p, tid := m.tid } none none 0 0) (by rw [mtX_size]; decide) rfl
  have z1 := mt_cell M4.k1 (j := 1) rfl
  have HM3 := Lib.hid M4
  clear M3 M4
  generalize hu3 : decide (0 ≤ m.tid) = u3 at HM
  generalize hu4 : decide (m.tid < 3) = u4 at HM
  cases u1
  · go_wp2_with fail
    go_ret
    rw [HM.out]
    exact ⟨by simp, HM3.out.bel⟩
  cases u3
  · go_wp2_with fail
    go_ret
    rw [HM.out]
    exact ⟨by simp, HM3.out.bel⟩
  cases u4
  · go_wp2_with fail
    go_ret
    rw [HM.out]
    exact ⟨by simp, HM3.out.bel⟩
  have l1 := mt_load (P := Tryz.prog) HM3.out.k1
  have l2 := mt_load (P := Tryz.prog) HM3.out.k2
  have SM := Lib.hid (SMA.out _ HM3.out.bel)
  go_wp2_with fail
  refine SM.out.mono ?_
  rintro e w9 ⟨rfl, b9⟩
  have B9 := Lib.hid (HM3.out.bel.trans (b9.mono HM3.out.bel.size))
  clear b9 l1 l2
  go_wp2_with fail
  go_ret
  rw [HM.out]
  exact ⟨by simp, B9.out⟩
set_option maxRecDepth 100000 in
set_option maxHeartbeats 8000000 in
theorem mMay_5 (m : Mt) (A1 D1 : Option Addr) (c1 e1 B : Nat) (w : World) (h1 : CoR w B m.c A1 D1) (hB : B ≤ w.heap.size) (hk : m.kd = 5) :
    Calls Tryz.prog 18 #[.agg (mtX m A1 D1 c1 e1)] w fun e w' => e = .returned (.bool (mayM m)) ∧ Below w.heap.size w w' := by
  obtain ⟨W0, hW0⟩ : ∃ W0, W0 = w.alloc (.cells (mtX m A1 D1 c1 e1) 42) := ⟨_, rfl⟩
  have s0 : W0.heap.size = w.heap.size + 1 := by rw [hW0]; simp
  have B0 : Below w.heap.size w W0 := by rw [hW0]; exact bal (Below.refl _ _) _
  have K0 : Blk W0 w.heap.size 42 (mtX m A1 D1 c1 e1) := by rw [hW0]; exact Blk.new w 42 _
  have x0 := mt_cell K0 (j := 0) rfl
  obtain ⟨W1, st1, kk, bb, ss⟩ := bk_fresh (P := Tryz.prog) W0 42 #[.int .i8 0, .int .i64 0, .int .i64 0, .int .i64 0, .int .i64 0, .int .i64 0, .bool false, .int .i64 0, .int .i8 0, .int .i64 0, .int .i64 0, .int .i64 0, .int .i64 0, .slice none 0 0, .slice none 0 0, .int .i64 0, .int .i64 0] #[.int .i8 m.kd, .int .i64 0, .int .i64 0, .int .i64 0, .int .i64 0, .int .i64 0, .bool false, .int .i64 0, .int .i8 0, .int .i64 0, .int .i64 0, .int .i64 0, .int .i64 0, .slice none 0 0, .slice none 0 0, .int .i64 0, .int .i64 0] 17 infoMt rfl rfl (by simp [Value.oneCell'])

  have M1 : MtE w.heap.size w.heap.size W0.heap.size w (mtX m A1 D1 c1 e1) (mtX (Mt0 m.kd) none none 0 0) W1 := ⟨K0.below bb K0.lt, kk, B0.trans (bb.mono B0.size), by omega, by omega⟩
  have HW := Lib.hid hW0
  have HS := Lib.hid s0
  have H1 := Lib.hid h1
  have HBB := Lib.hid hB
  have cc0 : (m.kd == 0) = false := by rw [hk]; rfl
  have cc4 : (m.kd == 4) = false := by rw [hk]; rfl
  have cc1 : (m.kd == 1) = false := by rw [hk]; rfl
  have cc2 : (m.kd == 2) = false := by rw [hk]; rfl
  have cc5 : (m.kd == 5) = true := by rw [hk]; rfl
  have cc3 : (m.kd == 3) = false := by rw [hk]; rfl
  have cc6 : (m.kd == 6) = false := by rw [hk]; rfl
  have cc7 : (m.kd == 7) = false := by rw [hk]; rfl
  have IP := Lib.hid (fun W => mIsPend_any m.p W)
  have SMA := Lib.hid (fun W (h : Below w.heap.size w W) => mSame_any m { Mt0 m.kd with p := m.p } A1 D1 none none c1 e1 0 0 B 0 W (H1.out.below (h.mono HBB.out)) (co0_R _ _) (Nat.le_trans HBB.out h.size) (Nat.zero_le _))
  have HM := Lib.hid (mayM_5 m hk)
  generalize sameM m { Mt0 m.kd with p := m.p } = sm at *
  clear hW0 s0 B0 K0 kk bb ss h1 hB hk
  generalize hu1 : pendB m.p = u1 at HM IP
  have v0 := mt_cell M1.k1 (j := 0) rfl
  have vp := mt_pend (P := Tryz.prog) M1.k1
  obtain ⟨W2, st2, M2⟩ := M1.pend m.p
  have zp := mt_pend (P := Tryz.prog) M2.k1
  have HM2 := Lib.hid M2
  clear M1 M2
  go_enter Tryz.func18, Tryz.ntmps18
  go_upto_region 1 with (fail)
  rw [← HW.out]
  go_wp2_with fail
  refine (IP.out _).mono ?_
  rintro e w3 ⟨rfl, b3⟩
  have M3 := HM2.out.below HM2.out.bel.size b3
  clear b3
  have y0 := mt_cell M3.k1 (j := 0) rfl
  have HM3 := Lib.hid M3
  clear M3
  cases u1
  · go_wp2_with fail
    go_ret
    rw [HM.out]
    exact ⟨by simp, HM3.out.bel⟩
  have l1 := mt_load (P := Tryz.prog) HM3.out.k1
  have l2 := mt_load (P := Tryz.prog) HM3.out.k2
  have SM := Lib.hid (SMA.out _ HM3.out.bel)
  go_wp2_with fail
  refine SM.out.mono ?_
  rintro e w9 ⟨rfl, b9⟩
  have B9 := Lib.hid (HM3.out.bel.trans (b9.mono HM3.out.bel.size))
  clear b9 l1 l2
  go_wp2_with fail
  go_ret
  rw [HM.out]
  exact ⟨by simp, B9.out⟩
set_option maxRecDepth 100000 in
set_option maxHeartbeats 8000000 in
theorem mMay_6 (m : Mt) (A1 D1 : Option Addr) (c1 e1 B : Nat) (w : World) (h1 : CoR w B m.c A1 D1) (hB : B ≤ w.heap.size) (hk : m.kd = 6) :
    Calls Tryz.prog 18 #[.agg (mtX m A1 D1 c1 e1)] w fun e w' => e = .returned (.bool (mayM m)) ∧ Below w.heap.size w w' := by
  obtain ⟨W0, hW0⟩ : ∃ W0, W0 = w.alloc (.cells (mtX m A1 D1 c1 e1) 42) := ⟨_, rfl⟩
  have s0 : W0.heap.size = w.heap.size + 1 := by rw [hW0]; simp
  have B0 : Below w.heap.size w W0 := by rw [hW0]; exact bal (Below.refl _ _) _
  have K0 : Blk W0 w.heap.size 42 (mtX m A1 D1 c1 e1) := by rw [hW0]; exact Blk.new w 42 _
  have x0 := mt_cell K0 (j := 0) rfl
  obtain ⟨W1, st1, kk, bb, ss⟩ := bk_fresh (P := Tryz.prog) W0 42 #[.int .i8 0, .int .i64 0, .int .i64 0, .int .i64 0, .int .i64 0, .int .i64 0, .bool false, .int .i64 0, .int .i8 0, .int .i64 0, .int .i64 0, .int .i64 0, .int .i64 0, .slice none 0 0, .slice none 0 0, .int .i64 0, .int .i64 0] #[.int .i8 m.kd, .int .i64 0, .int .i64 0, .int .i64 0, .int .i64 0, .int .i64 0, .bool false, .int .i64 0, .int .i8 0, .int .i64 0, .int .i64 0, .int .i64 0, .int .i64 0, .slice none 0 0, .slice none 0 0, .int .i64 0, .int .i64 0] 17 infoMt rfl rfl (by simp [Value.oneCell'])

  have M1 : MtE w.heap.size w.heap.size W0.heap.size w (mtX m A1 D1 c1 e1) (mtX (Mt0 m.kd) none none 0 0) W1 := ⟨K0.below bb K0.lt, kk, B0.trans (bb.mono B0.size), by omega, by omega⟩
  have HW := Lib.hid hW0
  have HS := Lib.hid s0
  have H1 := Lib.hid h1
  have HBB := Lib.hid hB
  have cc0 : (m.kd == 0) = false := by rw [hk]; rfl
  have cc4 : (m.kd == 4) = false := by rw [hk]; rfl
  have cc1 : (m.kd == 1) = false := by rw [hk]; rfl
  have cc2 : (m.kd == 2) = false := by rw [hk]; rfl
  have cc5 : (m.kd == 5) = false := by rw [hk]; rfl
  have cc3 : (m.kd == 3) = false := by rw [hk]; rfl
  have cc6 : (m.kd == 6) = true := by rw [hk]; rfl
  have cc7 : (m.kd == 7) = false := by rw [hk]; rfl
  have MC := Lib.hid (fun W (h : Below w.heap.size w W) => May_any m.c A1 D1 c1 e1 B W (h1.below (h.mono hB)) (Nat.le_trans hB h.size))
  have SMA := Lib.hid (fun W (h : Below w.heap.size w W) => mSame_any m { Mt0 m.kd with c := m.c, tid := m.tid } A1 D1 A1 D1 c1 e1 c1 e1 B B W (H1.out.below (h.mono HBB.out)) (H1.out.below (h.mono HBB.out)) (Nat.le_trans HBB.out h.size) (Nat.le_trans HBB.out h.size))
  have HM := Lib.hid (mayM_6 m hk)
  generalize sameM m { Mt0 m.kd with c := m.c, tid := m.tid } = sm at *
  clear hW0 s0 B0 K0 kk bb ss h1 hB hk
  generalize hu2 : mayB m.c = u2 at HM MC
  have v0 := mt_cell M1.k1 (j := 0) rfl
  have vc := mt_co (P := Tryz.prog) M1.k1
  obtain ⟨W2, st2, M2⟩ := M1.co m.c A1 D1 c1 e1
  have zc := mt_co (P := Tryz.prog) M2.k1
  have z0 := mt_cell M2.k1 (j := 0) rfl
  have z1 := mt_cell M2.k1 (j := 1) rfl
  have z13 := mt_cell M2.k1 (j := 13) rfl
  obtain ⟨W3, st3, M3⟩ := M2.int 1 m.tid (mtX { Mt0 m.kd with c := m.c, tid := m.tid } A1 D1 c1 e1) (by rw [mtX_size]; decide) rfl
  have q1 := mt_cell M3.k1 (j := 1) rfl
  have HM2 := Lib.hid M2
  have HM3 := Lib.hid M3
  clear M1 M2 M3
  generalize hu3 : decide (0 ≤ m.tid) = u3 at HM
  generalize hu4 : decide (m.tid < 3) = u4 at HM
  generalize hu1 : decide (m.c.ps.length = 0) = u1 at HM
  have hu1' : (((m.c.ps.length : Nat) : Int) == 0) = u1 := by rw [← hu1]; by_cases h : m.c.ps.length = 0 <;> simp [h]
  clear hu1
  cases u1
  · go_enter Tryz.func18, Tryz.ntmps18
    go_upto_region 1 with (fail)
    rw [← HW.out]
    go_wp2_with fail
    go_ret
    rw [HM.out]
    exact ⟨by simp, HM3.out.bel⟩
  go_enter Tryz.func18, Tryz.ntmps18
  go_upto_region 1 with (fail)
  rw [← HW.out]
  go_wp2_with fail
  refine (MC.out _ HM2.out.bel).mono ?_
  rintro e w3 ⟨rfl, b3⟩
  have M5 := HM2.out.below HM2.out.bel.size b3
  clear b3 st3 z0 z1 z13 q1 vc zc
  have y0 := mt_cell M5.k1 (j := 0) rfl
  have y1 := mt_cell M5.k1 (j := 1) rfl
  obtain ⟨W6, st6, M6⟩ := M5.int 1 m.tid (mtX { Mt0 m.kd with c := m.c, tid := m.tid } A1 D1 c1 e1) (by rw [mtX_size]; decide) rfl
  have q1 := mt_cell M6.k1 (j := 1) rfl
  have HM6 := Lib.hid M6
  clear M5 M6
  cases u2
  · go_wp2_with fail
    go_ret
    rw [HM.out]
    exact ⟨by simp, HM6.out.bel⟩
  cases u3
  · go_wp2_with fail
    go_ret
    rw [HM.out]
    exact ⟨by simp, HM6.out.bel⟩
  cases u4
  · go_wp2_with fail
    go_ret
    rw [HM.out]
    exact ⟨by simp, HM6.out.bel⟩
  have l1 := mt_load (P := Tryz.prog) HM6.out.k1
  have l2 := mt_load (P := Tryz.prog) HM6.out.k2
  have SM := Lib.hid (SMA.out _ HM6.out.bel)
  go_wp2_with fail
  refine SM.out.mono ?_
  rintro e w9 ⟨rfl, b9⟩
  have B9 := Lib.hid (HM6.out.bel.trans (b9.mono HM6.out.bel.size))
  clear b9 l1 l2
  go_wp2_with fail
  go_ret
  rw [HM.out]
  exact ⟨by simp, B9.out⟩
set_option maxRecDepth 100000 in
set_option maxHeartbeats 8000000 in
theorem mMay_no (m : Mt) (A1 D1 : Option Addr) (c1 e1 B : Nat) (w : World) (h1 : CoR w B m.c A1 D1) (hB : B ≤ w.heap.size) (hk : ∀ k : Int, 0 ≤ k → k ≤ 7 → ¬ m.kd = k) :
    Calls Tryz.prog 18 #[.agg (mtX m A1 D1 c1 e1)] w fun e w' => e = .returned (.bool (mayM m)) ∧ Below w.heap.size w w' := by
  obtain ⟨W0, hW0⟩ : ∃ W0, W0 = w.alloc (.cells (mtX m A1 D1 c1 e1) 42) := ⟨_, rfl⟩
  have s0 : W0.heap.size = w.heap.size + 1 := by rw [hW0]; simp
  have B0 : Below w.heap.size w W0 := by rw [hW0]; exact bal (Below.refl _ _) _
  have K0 : Blk W0 w.heap.size 42 (mtX m A1 D1 c1 e1) := by rw [hW0]; exact Blk.new w 42 _
  have x0 := mt_cell K0 (j := 0) rfl
  obtain ⟨W1, st1, kk, bb, ss⟩ := bk_fresh (P := Tryz.prog) W0 42 #[.int .i8 0, .int .i64 0, .int .i64 0, .int .i64 0, .int .i64 0, .int .i64 0, .bool false, .int .i64 0, .int .i8 0, .int .i64 0, .int .i64 0, .int .i64 0, .int .i64 0, .slice none 0 0, .slice none 0 0, .int .i64 0, .int .i64 0] #[.int .i8 m.kd, .int .i64 0, .int .i64 0, .int .i64 0, .int .i64 0, .int .i64 0, .bool false, .int .i64 0, .int .i8 0, .int .i64 0, .int .i64 0, .int .i64 0, .int .i64 0, .slice none 0 0, .slice none 0 0, .int .i64 0, .int .i64 0] 17 infoMt rfl rfl (by simp [Value.oneCell'])
  have M1 : MtE w.heap.size w.heap.size W0.heap.size w (mtX m A1 D1 c1 e1) (mtX (Mt0 m.kd) none none 0 0) W1 := ⟨K0.below bb K0.lt, kk, B0.trans (bb.mono B0.size), by omega, by omega⟩
  have HW := Lib.hid hW0
  have HM := Lib.hid (mayM_no m hk)
  have cc0 : (m.kd == 0) = false := by simpa using hk 0 (by decide) (by decide)
  have cc4 : (m.kd == 4) = false := by simpa using hk 4 (by decide) (by decide)
  have cc1 : (m.kd == 1) = false := by simpa using hk 1 (by decide) (by decide)
  have cc2 : (m.kd == 2) = false := by simpa using hk 2 (by decide) (by decide)
  have cc5 : (m.kd == 5) = false := by simpa using hk 5 (by decide) (by decide)
  have cc3 : (m.kd == 3) = false := by simpa using hk 3 (by decide) (by decide)
  have cc6 : (m.kd == 6) = false := by simpa using hk 6 (by decide) (by decide)
  have cc7 : (m.kd == 7) = false := by simpa using hk 7 (by decide) (by decide)
  have v0 := mt_cell M1.k1 (j := 0) rfl
  have HM3 := Lib.hid M1
  clear hW0 s0 B0 K0 kk bb ss h1 hB hk M1
  go_enter Tryz.func18, Tryz.ntmps18
  go_upto_region 1 with (fail)
  rw [← HW.out]
  go_wp2_with fail
  go_ret
  rw [HM.out]
  exact ⟨rfl, HM3.out.bel⟩
theorem mMay_all (m : Mt) (A1 D1 : Option Addr) (c1 e1 B : Nat) (w : World) (h1 : CoR w B m.c A1 D1) (hB : B ≤ w.heap.size) :
    Calls Tryz.prog 18 #[.agg (mtX m A1 D1 c1 e1)] w fun e w' => e = .returned (.bool (mayM m)) ∧ Below w.heap.size w w' := by
  by_cases q0 : m.kd = 0
  · exact mMay_0 m A1 D1 c1 e1 B w h1 hB q0
  by_cases q1 : m.kd = 1
  · exact mMay_1 m A1 D1 c1 e1 B w h1 hB q1
  by_cases q2 : m.kd = 2
  · exact mMay_2 m A1 D1 c1 e1 B w h1 hB q2
  by_cases q3 : m.kd = 3
  · exact mMay_3 m A1 D1 c1 e1 B w h1 hB q3
  by_cases q4 : m.kd = 4
  · exact mMay_4 m A1 D1 c1 e1 B w h1 hB q4
  by_cases q5 : m.kd = 5
  · exact mMay_5 m A1 D1 c1 e1 B w h1 hB q5
  by_cases q6 : m.kd = 6
  · exact mMay_6 m A1 D1 c1 e1 B w h1 hB q6
  by_cases q7 : m.kd = 7
  · exact mMay_7 m A1 D1 c1 e1 B w h1 hB q7
  exact mMay_no m A1 D1 c1 e1 B w h1 hB (fun k h8 h9 => by rcases (show k = 0 ∨ k = 1 ∨ k = 2 ∨ k = 3 ∨ k = 4 ∨ k = 5 ∨ k = 6 ∨ k = 7 by omega) with rfl | rfl | rfl | rfl | rfl | rfl | rfl | rfl <;> assumption)
end
end Go.Proofs.YtbpkckahonmpkaaGreatDoor
namespace Go.Proofs.YtbpkckahonmpkaaGreatDoor.ErMl
open Go.RowKit Go.Stop Go.Extern

theorem asTypeOfB (v : Value) (w : World) : (callFunc 106 #[.iface 102 v]).run Tryz.prog w = .ok (.value (.iface 178 (.agg #[.pointer (some ⟨1, 102, none⟩)]))) w := by kernel_rfl
theorem asAssignB (w : World) : (callFunc 191 #[.agg #[.pointer (some ⟨1, 102, none⟩)], .iface 178 (.agg #[.pointer (some ⟨1, 35, none⟩)])]).run Tryz.prog w = .ok (.value (.bool false)) w := by kernel_rfl
theorem asNoAs (v : Value) (xT : TypeId) (w : World) : (Instr.typeAssert (.iface 102 v) xT 190 true).run Tryz.prog w = .ok (.tuple #[.nilIface, .bool false]) w := run_typeAssert_lacksB Tryz.underlying190 (by kernel_rfl) (by kernel_rfl) v xT w
theorem asHasUnwrap (v : Value) (xT : TypeId) (w : World) : (Instr.typeAssert (.iface 102 v) xT 183 true).run Tryz.prog w = .ok (.tuple #[.iface 102 v, .bool true]) w := run_typeAssert_hasB Tryz.underlying183 (by kernel_rfl) v xT w
theorem asMethodUnwrap (k : Nat) (v : Value) (w : World) : (Go.method (k + 1) 102 v "Unwrap").run Tryz.prog w = .ok (173, v) w := by kernel_rfl
set_option maxHeartbeats 4000000 in
/-- errors.As(&error{.., n}, &e): true, and e is n. -/
theorem as_any (b t : Nat) (n : Int) (old : Value) (w : World) (hg : w.cell? ⟨0, 0, none⟩ = some (.iface 178 (.agg #[.pointer (some ⟨1, 71, none⟩)])))
    (hb1 : w.cell? ⟨b, 1, none⟩ = some (.int .i64 n)) (ht0 : w.cell? ⟨t, 0, none⟩ = some old) (hf0 : w.frozen? ⟨t, 0, none⟩ = false) :
    Calls Tryz.prog 70 #[.iface 102 (.pointer (some ⟨b, 0, none⟩)), .iface 117 (.pointer (some ⟨t, 0, none⟩))] w fun ev w' => ev = .returned (.bool true) ∧ asWorld w t n = w' := by
  have hlt : 0 < w.heap.size := by
    rcases Nat.lt_or_ge 0 w.heap.size with h | h
    · exact h
    · simp [World.cell?, Array.getElem?_eq_none h] at hg
  have hbl : b < w.heap.size := by
    rcases Nat.lt_or_ge b w.heap.size with h | h
    · exact h
    · simp [World.cell?, Array.getElem?_eq_none h] at hb1
  have htl : t < w.heap.size := by
    rcases Nat.lt_or_ge t w.heap.size with h | h
    · exact h
    · simp [World.cell?, Array.getElem?_eq_none h] at ht0
  have f1 := asValueOf
  have f2 := asType
  have f3 := asMethodKind
  have f4 := asKindP
  have f5 := asKindE
  have f6 := asMethodElem
  have f7 := asMethodImplements
  have f8 := asMethodAssignable
  have f9 := asElem
  have f10 := asImplements
  have f11 := asTypeOfB
  have f12 := asTypeOfE
  have f13 := asAssignB
  have f14 := asAssignE
  have f15 := asValueOfE
  have f16 := asNoAs
  have f17 := asHasUnwrap
  have f18 := asMethodUnwrap
  have n8 := asIsNil ⟨w.heap.size, 0, none⟩ ⟨t, 0, none⟩ ((w.alloc (.cells #[.pointer (some ⟨t, 0, none⟩)] 117)).alloc (.cells #[.pointer (some ⟨1, 117, none⟩), .pointer (some ⟨w.heap.size, 0, none⟩), .int .u64 150] 148)) (by simp)
  have hg2 : ((w.alloc (.cells #[.pointer (some ⟨t, 0, none⟩)] 117)).alloc (.cells #[.pointer (some ⟨1, 117, none⟩), .pointer (some ⟨w.heap.size, 0, none⟩), .int .u64 150] 148)).cell? ⟨0, 0, none⟩ = some (.iface 178 (.agg #[.pointer (some ⟨1, 71, none⟩)])) := by
    rw [World.cell?_alloc_lt _ _ ⟨0, 0, none⟩ (by simp only [World.size_alloc]; omega), World.cell?_alloc_lt _ _ ⟨0, 0, none⟩ hlt]; exact hg
  have hb2 : (((w.alloc (.cells #[.pointer (some ⟨t, 0, none⟩)] 117)).alloc (.cells #[.pointer (some ⟨1, 117, none⟩), .pointer (some ⟨w.heap.size, 0, none⟩), .int .u64 150] 148)).alloc (.cells #[.pointer (some ⟨1, 117, none⟩), .pointer (some ⟨w.heap.size, 0, none⟩), .int .u64 150] 148)).cell? ⟨b, 1, none⟩ = some (.int .i64 n) := by
    rw [World.cell?_alloc_lt _ _ ⟨b, 1, none⟩ (by simp only [World.size_alloc]; omega), World.cell?_alloc_lt _ _ ⟨b, 1, none⟩ (by simp only [World.size_alloc]; omega), World.cell?_alloc_lt _ _ ⟨b, 1, none⟩ hbl]; exact hb1
  have el := asElemV ⟨w.heap.size, 0, none⟩ ⟨t, 0, none⟩ (((w.alloc (.cells #[.pointer (some ⟨t, 0, none⟩)] 117)).alloc (.cells #[.pointer (some ⟨1, 117, none⟩), .pointer (some ⟨w.heap.size, 0, none⟩), .int .u64 150] 148)).alloc (.cells #[.pointer (some ⟨1, 117, none⟩), .pointer (some ⟨w.heap.size, 0, none⟩), .int .u64 150] 148)) (by rw [World.cell?_alloc_lt _ _ ⟨w.heap.size, 0, none⟩ (by simp only [World.size_alloc]; omega)]; simp)
  have st := asSet ⟨t, 0, none⟩ ⟨w.heap.size + 1 + 1 + 1, 0, none⟩ n old ((((w.alloc (.cells #[.pointer (some ⟨t, 0, none⟩)] 117)).alloc (.cells #[.pointer (some ⟨1, 117, none⟩), .pointer (some ⟨w.heap.size, 0, none⟩), .int .u64 150] 148)).alloc (.cells #[.pointer (some ⟨1, 117, none⟩), .pointer (some ⟨w.heap.size, 0, none⟩), .int .u64 150] 148)).alloc (.cells #[.int .i64 n] 35))
    (by rw [World.cell?_alloc_at _ _ _ _ (by simp)]; rfl)
    (by rw [World.cell?_alloc_lt _ _ ⟨t, 0, none⟩ (by simp only [World.size_alloc]; omega), World.cell?_alloc_lt _ _ ⟨t, 0, none⟩ (by simp only [World.size_alloc]; omega), World.cell?_alloc_lt _ _ ⟨t, 0, none⟩ (by simp only [World.size_alloc]; omega), World.cell?_alloc_lt _ _ ⟨t, 0, none⟩ htl]; exact ht0)
    (by rw [World.frozen?_alloc_old _ _ ⟨t, 0, none⟩ (by simp only [World.size_alloc]; omega), World.frozen?_alloc_old _ _ ⟨t, 0, none⟩ (by simp only [World.size_alloc]; omega), World.frozen?_alloc_old _ _ ⟨t, 0, none⟩ (by simp only [World.size_alloc]; omega), World.frozen?_alloc_old _ _ ⟨t, 0, none⟩ (Nat.ne_of_lt htl)]; exact hf0)
  go_enter Tryz.func70, Tryz.ntmps70
  go_wp2
  refine wp_loop_rounds 2 ?_
  iterate 2 (rw [rounds_succ]; go_wp2)
  go_ret
  exact ⟨rfl, rfl⟩

theorem isNoIs (v : Value) (xT : TypeId) (w : World) : (Instr.typeAssert (.iface 102 v) xT 180 true).run Tryz.prog w = .ok (.tuple #[.nilIface, .bool false]) w := run_typeAssert_lacksB Tryz.underlying180 (by kernel_rfl) (by kernel_rfl) v xT w
theorem eqOther (v : Value) (b : Int) (w : World) : (binOp .eql 71 (.iface 102 v) (.iface 35 (.int .i64 b))).run Tryz.prog w = .ok (.bool false) w := by kernel_rfl

set_option maxRecDepth 100000 in
set_option maxHeartbeats 4000000 in
/-- errors.Is(&error{.., n}, m): whether n is m. -/
theorem is_any (b : Nat) (n m : Int) (w : World) (hb1 : w.cell? ⟨b, 1, none⟩ = some (.int .i64 n)) :
    Calls Tryz.prog 69 #[.iface 102 (.pointer (some ⟨b, 0, none⟩)), .iface 35 (.int .i64 m)] w fun ev w' => ev = .returned (.bool (n == m)) ∧ w = w' := by
  have f6 := isMethodComparable
  have f7 := isComparableE
  have f8 := isNoIsE
  have f9 := isNoUnwrapE
  have f10 := isNoUnwrapsE
  have f11 := eqErrno
  have f12 := asTypeOfE
  have f16 := isNoIs
  have f17 := asHasUnwrap
  have f18 := asMethodUnwrap
  have f19 := eqOther
  by_cases hnm : n = m
  · subst hnm
    go_enter Tryz.func69, Tryz.ntmps69
    go_wp2
    refine wp_loop_rounds 2 ?_
    iterate 2 (rw [rounds_succ]; go_wp2)
    go_ret
    exact ⟨by simp, rfl⟩
  · have d1 : (n == m) = false := beq_eq_false_iff_ne.2 hnm
    have D1 := Lib.hid d1
    go_enter Tryz.func69, Tryz.ntmps69
    go_wp2
    refine wp_loop_rounds 2 ?_
    iterate 2 (rw [rounds_succ]; go_wp2)
    go_ret
    exact ⟨by rw [D1.out]; rfl, rfl⟩
end Go.Proofs.YtbpkckahonmpkaaGreatDoor.ErMl
